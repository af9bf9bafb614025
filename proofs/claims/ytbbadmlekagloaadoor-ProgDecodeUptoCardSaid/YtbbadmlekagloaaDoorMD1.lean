/- own work: ShA, ShB, ShC, ShD, ShE, ShF, ShG, ShT, PgA, PgB, PgC -/
import Derived.Tactics
import Derived.Scope
import Derived.Below
import Derived.KernelRfl
import Derived.Laws.StructEq
import Derived.RowKit
import Derived.IntWalk
import Derived.Deep.Quiet
import Derived.StillTail
import Derived.Maps.AppendAt
import Derived.Laws.AppendOwnNone
import Derived.Laws.OwnMore
import Derived.Test.YtbbadmlekagloaaDoorProg
namespace Go.Sh

abbrev Env := List (Nat × Value)
def look : Env → Nat → Option Value
  | [], _ => none
  | (d, v) :: r, t => match Nat.beq d t with | true => some v | false => look r t
structure Fr where
  env : Env
  ds : List Deferred
def Fr.put (F : Fr) : Option Nat → Value → Fr
  | none, _ => F
  | some d, v => { F with env := (d, v) :: F.env }
def Agr (n : Nat) (F : Fr) (a : Act) : Prop :=
  a.tmps.size = n ∧ a.defers = F.ds ∧ ∀ t v, look F.env t = some v → a.tmps[t]? = some v

structure TI where
  desc : TypeDesc
  size : Nat
  bytes : Nat
  zero : Value
  flat : Bool
structure Tab where
  ts : List (Nat × TI)
  fs : List Nat
def getT : List (Nat × TI) → Nat → Option TI
  | [], _ => none
  | (n, i) :: r, t => match Nat.beq n t with | true => some i | false => getT r t
def FlatOk (P : Program) (t : Nat) (i : TI) : Prop :=
  P.eqGuardType P.depth t = false ∧ P.stoodInHeld t = false ∧ (match i.desc with | .struct fs => fs.toList.all (fun f => f.name != "_") | _ => true) = true
def TabOkT (P : Program) : List (Nat × TI) → Prop
  | [] => True
  | (t, i) :: r => (P.underlying t = some i.desc ∧ (P.info? t).map (fun j => (j.zero, j.size, j.bytes)) = some (some i.zero, i.size, i.bytes) ∧
      (i.flat = true → FlatOk P t i)) ∧ TabOkT P r
def IsGo (P : Program) (f : Nat) : Prop := ∃ fn, P.funcs[f]? = some fn ∧ (fn.name == "runtime.NumGoroutine") = false ∧ fn.body.isNone = false
def TabOkF (P : Program) : List Nat → Prop
  | [] => True
  | f :: r => IsGo P f ∧ TabOkF P r
def TabOk (P : Program) (T : Tab) : Prop := TabOkT P T.ts ∧ TabOkF P T.fs
def memN : List Nat → Nat → Bool
  | [], _ => false
  | x :: r, t => match Nat.beq x t with | true => true | false => memN r t

theorem TabOkT.get {P : Program} : ∀ {l : List (Nat × TI)}, TabOkT P l → ∀ {t i}, getT l t = some i →
    P.underlying t = some i.desc ∧ (P.info? t).map (fun j => (j.zero, j.size, j.bytes)) = some (some i.zero, i.size, i.bytes) ∧
      (i.flat = true → FlatOk P t i)
  | [], _, t, i, h => by simp [getT] at h
  | (n, j) :: r, hl, t, i, h => by
    unfold getT at h
    split at h
    · rename_i hn; simp at h; subst h; have := Nat.eq_of_beq_eq_true hn; subst this; exact hl.1
    · exact TabOkT.get hl.2 h
theorem TabOkF.get {P : Program} : ∀ {l : List Nat}, TabOkF P l → ∀ {f}, memN l f = true → IsGo P f
  | [], _, f, h => by simp [memN] at h
  | x :: r, hl, f, h => by
    unfold memN at h
    split at h
    · rename_i hn; have := Nat.eq_of_beq_eq_true hn; subst this; exact hl.1
    · exact TabOkF.get hl.2 h

section facts
variable {P : Program} {l : List (Nat × TI)} (h : TabOkT P l) {t : Nat} {i : TI} (hi : getT l t = some i) (w : World)
include h hi
theorem run_und : (Go.underlying t).run P w = Result.ok i.desc w := by
  have := (h.get hi).1
  simp [Go.underlying, this]
theorem info_of : ∃ j, P.info? t = some j ∧ j.zero = some i.zero ∧ j.size = i.size ∧ j.bytes = i.bytes := by
  have := (h.get hi).2.1
  cases hj : P.info? t with
  | none => rw [hj] at this; simp at this
  | some j => rw [hj] at this; simp at this; exact ⟨j, rfl, this.1, this.2.1, this.2.2⟩
theorem run_size : (Go.sizeOf t).run P w = Result.ok i.size w := by
  obtain ⟨j, hj, _, hs, _⟩ := info_of h hi
  simp [Go.sizeOf, typeInfo, hj, hs]
theorem run_zero : (zeroValue t).run P w = Result.ok i.zero w := by
  obtain ⟨j, hj, hz, _, _⟩ := info_of h hi
  simp [zeroValue, typeInfo, hj, hz]
end facts

/-! ### the pieces that a proof meets -/
structure Gd (b : Bool) (X Y : Prop) : Prop where
  of ::
  yes : b = true → X
  no : b = false → Y
structure Al (cs : List Value) (t : TypeId) (w : World) (k : Nat → World → Prop) : Prop where
  of ::
  out : k w.heap.size (w.alloc (.cells cs.toArray t))
inductive Ld (w : World) (p : Addr) (m : Nat) (k : List Value → Prop) : Prop where
  | intro (vs : List Value) (h1 : vs.length = m) (h2 : ∀ i v, vs[i]? = some v → w.cell? (p.add i) = some v) (h3 : k vs)
inductive Ld1 (w : World) (p : Addr) (k : Value → Prop) : Prop where
  | intro (v : Value) (h1 : w.cell? p = some v) (h2 : k v)
def setCells (w : World) (p : Addr) : List Value → Nat → World
  | [], _ => w
  | v :: r, i => setCells (w.setCell (p.add i) v) p r (i + 1)
structure St (w : World) (p : Addr) (vs : List Value) (k : World → Prop) : Prop where
  of ::
  one : ∀ v ∈ vs, v.oneCell' = true
  there : ∀ i, i < vs.length → (∃ u, w.cell? (p.add i) = some u) ∧ w.frozen? (p.add i) = false
  out : k (setCells w p vs 0)
def gA : Option Addr → Addr
  | some ad => ad
  | none => ⟨0, 0, none⟩
structure Ix (A : Option Addr) (len : Nat) (i : Int) (sz : Nat) (k : Addr → Prop) : Prop where
  of ::
  some : A ≠ none
  lo : 0 ≤ i
  hi : i < (len : Int)
  out : k ((gA A).add (i.toNat * sz))
structure Cl (P : Program) (f : Nat) (args : Array Value) (w : World) (k : Value → World → Prop) (X : List PanicEntry → World → Prop) : Prop where
  of ::
  out : Calls P f args w fun e w' => match e with | .returned v => k v w' | .panicked ch => X ch w' | .outgrown => False
structure Sm (P : Program) (s : Sem Value) (w : World) (k : Value → World → Prop) (X : List PanicEntry → World → Prop) : Prop where
  of ::
  out : match s.run P w with
  | .ok v w' => k v w'
  | .halt (.panic v) w' => X [{ v, recovered := false }] w'
  | _ => False
structure SmU (P : Program) (s : Sem Unit) (w : World) (k : World → Prop) (X : List PanicEntry → World → Prop) : Prop where
  of ::
  out : match s.run P w with
  | .ok _ w' => k w'
  | .halt (.panic v) w' => X [{ v, recovered := false }] w'
  | _ => False

/-! ### pure operations -/
def kEq : IntKind → IntKind → Bool
  | .i8, .i8 | .i16, .i16 | .i32, .i32 | .i64, .i64 | .u8, .u8 | .u16, .u16 | .u32, .u32 | .u64, .u64 => true
  | _, _ => false
theorem kEq_eq {a b : IntKind} (h : kEq a b = true) : a = b := by cases a <;> cases b <;> first | rfl | (simp [kEq] at h)

def puInt (op : BinOp) (k : IntKind) (a b : Int) : Option Value :=
  match op with
  | .add => some (.int k (k.wrap (a + b)))
  | .sub => some (.int k (k.wrap (a - b)))
  | .mul => some (.int k (k.wrap (a * b)))
  | .eql => some (.bool (a == b))
  | .neq => some (.bool (a != b))
  | .lss => some (.bool (a < b))
  | .leq => some (.bool (a ≤ b))
  | .gtr => some (.bool (a > b))
  | .geq => some (.bool (a ≥ b))
  | .and => some (.int k (k.wrap (BitVec.ofInt k.bits a &&& BitVec.ofInt k.bits b).toNat))
  | .or => some (.int k (k.wrap (BitVec.ofInt k.bits a ||| BitVec.ofInt k.bits b).toNat))
  | .xor => some (.int k (k.wrap (BitVec.ofInt k.bits a ^^^ BitVec.ofInt k.bits b).toNat))
  | .andNot => some (.int k (k.wrap (BitVec.ofInt k.bits a &&& ~~~ BitVec.ofInt k.bits b).toNat))
  | _ => none
def aggD : TypeDesc → Bool
  | .struct _ => true
  | .array _ _ => true
  | _ => false
def partF (T : List (Nat × TI)) (t : Nat) (cs : List Value) (off : Nat) : Option Value :=
  match getT T t with
  | none => none
  | some i => match aggD i.desc with
    | true => some (.agg ((cs.drop off).take i.size).toArray)
    | false => cs[off]?
def eqFs (T : List (Nat × TI)) (e : Nat → Value → Value → Option Bool) (xs ys : List Value) : List Field → Option Bool
  | [] => some true
  | f :: r => match partF T f.type xs f.offset with
    | none => none
    | some a => match partF T f.type ys f.offset with
      | none => none
      | some b => match e f.type a b with
        | none => none
        | some q => match r with
          | [] => some q
          | g :: r' => match eqFs T e xs ys (g :: r') with
            | none => none
            | some q' => some (q && q')
def eqF (T : List (Nat × TI)) : Nat → Nat → Value → Value → Option Bool
  | 0, _, _, _ => none
  | f + 1, t, x, y => match getT T t with
    | none => none
    | some i => match i.desc with
      | .int _ => match x with
        | .int k a => match y with
          | .int k' b => match kEq k k' with | true => some (a == b) | false => none
          | _ => none
        | _ => none
      | .bool => match x with
        | .bool a => match y with
          | .bool b => some (a == b)
          | _ => none
        | _ => none
      | .string => match x with
        | .string a => match y with
          | .string b => some (a == b)
          | _ => none
        | _ => none
      | .slice _ => match x with
        | .slice A _ _ => match y with
          | .slice B _ _ => match B with | none => some A.isNone | some _ => none
          | _ => none
        | _ => none
      | .pointer _ => match x with
        | .pointer A => match y with
          | .pointer B => match B with | none => some A.isNone | some _ => none
          | _ => none
        | _ => none
      | .map _ _ => match x with
        | .map A => match y with
          | .map B => match B with | none => some A.isNone | some _ => none
          | _ => none
        | _ => none
      | .interface _ => match x with
        | .iface _ _ => match y with
          | .nilIface => some false
          | _ => none
        | _ => none
      | .struct fs => match i.flat with
        | true => match x with
          | .agg xs => match y with
            | .agg ys => eqFs T (eqF T f) xs.toList ys.toList fs.toList
            | _ => none
          | _ => none
        | false => none
      | _ => none
def isC : Operand → Bool
  | .const _ => true
  | _ => false
def puBin (T : List (Nat × TI)) (op : BinOp) (t : Nat) (oy : Operand) (x y : Value) : Option Value :=
  match x with
  | .int k a => match y with
    | .int k' b => match kEq k k' with | true => puInt op k a b | false => none
    | _ => none
  | .string a => match y with
    | .string b => match op with
      | .eql => some (.bool (a == b))
      | .neq => some (.bool (!(a == b)))
      | _ => none
    | _ => none
  | .nilIface => match y with
    | .nilIface => match isC oy with
      | true => match getT T t with
        | some i => match i.desc with
          | .interface _ => match op with | .eql => some (.bool true) | .neq => some (.bool false) | _ => none
          | _ => none
        | none => none
      | false => none
    | _ => none
  | .float _ _ => none
  | .complex _ _ _ => none
  | _ => match op with
    | .eql => match eqF T 8 t x y with | some b => some (.bool b) | none => none
    | .neq => match eqF T 8 t x y with | some b => some (.bool (!b)) | none => none
    | _ => none

section eqn
variable {P : Program} (d : Nat) {t : Nat} (w : World)
theorem eqn_int {k' : IntKind} (k : IntKind) (a b : Int) (h : P.underlying t = some (.int k')) : (Op.equalIn (d + 1) t (.int k a) (.int k b)).run P w = Result.ok (a == b) w := by
  simp [Op.equalIn, Go.underlying, h]
theorem eqn_bool (a b : Bool) (h : P.underlying t = some .bool) : (Op.equalIn (d + 1) t (.bool a) (.bool b)).run P w = Result.ok (a == b) w := by
  simp [Op.equalIn, Go.underlying, h]
theorem eqn_str (a b : ByteArray) (h : P.underlying t = some .string) : (Op.equalIn (d + 1) t (.string a) (.string b)).run P w = Result.ok (a == b) w := by
  simp [Op.equalIn, Go.underlying, h]
theorem eqn_slice {e : Nat} (A : Option Addr) (n c n' c' : Nat) (h : P.underlying t = some (.slice e)) : (Op.equalIn (d + 1) t (.slice A n c) (.slice none n' c')).run P w = Result.ok A.isNone w := by
  cases A <;> simp [Op.equalIn, Go.underlying, h]
theorem eqn_ptr {e : Nat} (A : Option Addr) (h : P.underlying t = some (.pointer e)) : (Op.equalIn (d + 1) t (.pointer A) (.pointer none)).run P w = Result.ok A.isNone w := by
  cases A <;> simp [Op.equalIn, Go.underlying, h]
theorem eqn_map {k e : Nat} (A : Option Nat) (h : P.underlying t = some (.map k e)) : (Op.equalIn (d + 1) t (.map A) (.map none)).run P w = Result.ok A.isNone w := by
  cases A <;> simp [Op.equalIn, Go.underlying, h]
theorem eqn_iface {ms : Array (String × TypeId)} (u : Nat) (v : Value) (h : P.underlying t = some (.interface ms)) : (Op.equalIn (d + 1) t (.iface u v) .nilIface).run P w = Result.ok false w := by
  simp [Op.equalIn, Go.underlying, h]
theorem eqn_nil {ms : Array (String × TypeId)} (h : P.underlying t = some (.interface ms)) : (Op.equalIn (d + 1) t .nilIface .nilIface).run P w = Result.ok true w := by
  simp [Op.equalIn, Go.underlying, h]
end eqn
section sound
variable {P : Program} {T : List (Nat × TI)} (hT : TabOkT P T) (w : World)
include hT
theorem run_isAgg {t : Nat} {i : TI} (hi : getT T t = some i) : (isAgg t).run P w = Result.ok (aggD i.desc) w := by
  simp only [isAgg, Sem.run_bind, run_und hT hi, Result.andThen_ok]
  unfold aggD
  split <;> split <;> simp_all
theorem run_part {t : Nat} {cs : Array Value} {off : Nat} {v : Value} (h : partF T t cs.toList off = some v) : (part t cs off).run P w = Result.ok v w := by
  unfold partF at h
  split at h
  · simp at h
  · rename_i i hi
    simp only [part, Sem.run_bind, run_isAgg hT w hi, Result.andThen_ok]
    split at h
    · rename_i ha
      simp only [ha, if_true, Sem.run_bind, run_size hT hi w, Result.andThen_ok, Sem.run_pure]
      simp only [Option.some.injEq] at h
      rw [← h]
      congr 2
      apply Array.ext'
      simp [Array.toList_extract]
    · rename_i ha
      simp only [ha, Bool.false_eq_true, if_false]
      have : cs[off]? = some v := by rw [← h]; simp
      rw [this]; rfl
theorem run_eqFs {e : Nat → Value → Value → Option Bool} {d : Nat} (he : ∀ t x y b w, e t x y = some b → (Op.equalIn d t x y).run P w = Result.ok b w)
    (xs ys : Array Value) : ∀ (fs : List Field) (b : Bool) (w : World), fs.all (fun f => f.name != "_") = true → eqFs T e xs.toList ys.toList fs = some b →
      (Op.eqFields d xs ys fs).run P w = Result.ok b w
  | [], b, w, _, h => by simp [eqFs] at h; subst h; simp [Op.eqFields]
  | f :: r, b, w, hn, h => by
    unfold eqFs at h
    simp only [List.all_cons, Bool.and_eq_true, bne_iff_ne, ne_eq] at hn
    split at h; · simp at h
    rename_i a ha
    split at h; · simp at h
    rename_i c hc
    split at h; · simp at h
    rename_i q hq
    have ih := run_eqFs he xs ys r
    simp only [Op.eqFields, ne_eq, hn.1, not_false_eq_true, if_true, Sem.run_bind, run_part hT w ha, run_part hT w hc, Result.andThen_ok, he _ _ _ _ w hq]
    split at h
    · simp at h; subst h; cases q <;> simp [Op.eqFields]
    · rename_i g r'
      split at h; · simp at h
      rename_i q' hq'
      simp at h; subst h
      cases q
      · simp
      · have := ih q' w (by simpa using hn.2) hq'
        simpa using this
theorem run_eqF : ∀ (f d : Nat), f ≤ d → ∀ (t : Nat) (x y : Value) (b : Bool) (w : World), eqF T f t x y = some b → (Op.equalIn d t x y).run P w = Result.ok b w
  | 0, _, _, _, _, _, _, _, h => by simp [eqF] at h
  | f + 1, 0, hd, _, _, _, _, _, _ => by omega
  | f + 1, d + 1, hd, t, x, y, b, w, h => by
    unfold eqF at h
    cases hi : getT T t with
    | none => rw [hi] at h; simp at h
    | some i =>
      rw [hi] at h
      have hu := (hT.get hi).1
      have ih := run_eqF f d (by omega)
      have hfl := (hT.get hi).2.2
      obtain ⟨desc, size, bytes, zero, flat⟩ := i
      simp only at h hu hfl
      cases desc with
      | int k0 =>
        cases x <;> try (simp at h; done)
        cases y <;> try (simp at h; done)
        simp only at h
        split at h <;> simp at h
        rename_i hk; have := kEq_eq hk; subst this; subst h
        exact eqn_int d w _ _ _ hu
      | bool =>
        cases x <;> try (simp at h; done)
        cases y <;> try (simp at h; done)
        simp only [Option.some.injEq] at h; subst h
        exact eqn_bool d w _ _ hu
      | string =>
        cases x <;> try (simp at h; done)
        cases y <;> try (simp at h; done)
        simp only [Option.some.injEq] at h; subst h
        exact eqn_str d w _ _ hu
      | slice e =>
        cases x <;> try (simp at h; done)
        cases y <;> try (simp at h; done)
        rename_i B _ _
        cases B <;> simp at h
        subst h
        exact eqn_slice d w _ _ _ _ _ hu
      | pointer e =>
        cases x <;> try (simp at h; done)
        cases y <;> try (simp at h; done)
        rename_i B
        cases B <;> simp at h
        subst h
        exact eqn_ptr d w _ hu
      | map k e =>
        cases x <;> try (simp at h; done)
        cases y <;> try (simp at h; done)
        rename_i B
        cases B <;> simp at h
        subst h
        exact eqn_map d w _ hu
      | interface ms =>
        cases x <;> try (simp at h; done)
        cases y <;> try (simp at h; done)
        simp at h
        subst h
        exact eqn_iface d w _ _ hu
      | struct fs =>
        cases flat <;> try (simp at h; done)
        cases x <;> try (simp at h; done)
        cases y <;> try (simp at h; done)
        obtain ⟨_, h2, h3⟩ := hfl rfl
        have hfo : P.fieldsOf t = fs := by simp [Program.fieldsOf, hu]
        rw [run_equalIn_struct w d t _ _ (by rw [hfo]; exact hu) h2, hfo]
        exact run_eqFs hT ih _ _ _ _ _ h3 h
      | _ => simp at h

omit hT in
theorem run_guardless {op : BinOp} {t : Nat} {xo yo : Operand} {x y : Value} (h1 : ¬ (x = .nilIface ∧ y = .nilIface)) (h2 : ∀ a b, x = .agg a → y = .agg b → P.eqGuardType P.depth t = false) :
    (eqGuard op t xo yo x y).run P w = Result.ok () w := by
  unfold eqGuard
  cases op <;> simp only [Bool.not_true, Bool.not_false, if_true, Bool.false_eq_true, if_false] <;> first
    | rfl
    | (split
       · exact absurd ⟨rfl, rfl⟩ h1
       · simp [h2 _ _ rfl rfl]
       · rfl)
omit hT in
theorem puInt_sound {op : BinOp} {t : Nat} {k : IntKind} {a b : Int} {v : Value} (h : puInt op k a b = some v) : (binOp op t (.int k a) (.int k b)).run P w = Result.ok v w := by
  cases op <;> simp only [puInt, Option.some.injEq, reduceCtorEq] at h
  all_goals first
    | (subst h; simp [binOp, Op.intArith, Op.intCmp, Op.intBits]; done)
    | (subst h; simp [binOp, Op.intArith, Op.intCmp, Op.intBits]; rfl)
omit hT in
theorem binOp_eql {t : Nat} {x y : Value} (h1 : ∀ k a, x ≠ .int k a) (h2 : ∀ k a, x ≠ .float k a) (h3 : ∀ k a b, x ≠ .complex k a b) (h4 : ∀ a, x ≠ .string a) :
    binOp .eql t x y = (do pure (.bool (← Op.equal t x y))) := by
  unfold binOp
  split <;> first | rfl | (exact absurd rfl (h1 _ _)) | (exact absurd rfl (h2 _ _)) | (exact absurd rfl (h3 _ _ _)) | (exact absurd rfl (h4 _)) | simp_all
omit hT in
theorem binOp_neq {t : Nat} {x y : Value} (h1 : ∀ k a, x ≠ .int k a) (h2 : ∀ k a, x ≠ .float k a) (h3 : ∀ k a b, x ≠ .complex k a b) (h4 : ∀ a, x ≠ .string a) :
    binOp .neq t x y = (do pure (.bool (!(← Op.equal t x y)))) := by
  unfold binOp
  split <;> first | rfl | (exact absurd rfl (h1 _ _)) | (exact absurd rfl (h2 _ _)) | (exact absurd rfl (h3 _ _ _)) | (exact absurd rfl (h4 _)) | simp_all
theorem eqF_agg {t : Nat} {a b : Array Value} {q : Bool} (h : eqF T 8 t (.agg a) (.agg b) = some q) : P.eqGuardType P.depth t = false := by
  unfold eqF at h
  cases hi : getT T t with
  | none => rw [hi] at h; simp at h
  | some i =>
    rw [hi] at h
    have hfl := (hT.get hi).2.2
    obtain ⟨desc, size, bytes, zero, flat⟩ := i
    simp only at h hfl
    cases desc <;> try (simp at h; done)
    cases flat <;> try (simp at h; done)
    exact (hfl rfl).1
omit hT in
theorem eqF_nn {t : Nat} {q : Bool} (h : eqF T 8 t .nilIface .nilIface = some q) : False := by
  unfold eqF at h
  cases hi : getT T t with
  | none => rw [hi] at h; simp at h
  | some i =>
    rw [hi] at h
    obtain ⟨desc, size, bytes, zero, flat⟩ := i
    simp only at h
    cases desc <;> try (simp at h; done)
    cases flat <;> simp at h
theorem puBin_gen {op : BinOp} {t : Nat} {xo yo : Operand} {x y v : Value} (h1 : ∀ k a, x ≠ .int k a) (h2 : ∀ k a, x ≠ .float k a) (h3 : ∀ k a b, x ≠ .complex k a b) (h4 : ∀ a, x ≠ .string a)
    (h : (match op with
    | .eql => match eqF T 8 t x y with | some b => some (Value.bool b) | none => none
    | .neq => match eqF T 8 t x y with | some b => some (.bool (!b)) | none => none
    | _ => none) = some v) : (do eqGuard op t xo yo x y; binOp op t x y : Sem Value).run P w = Result.ok v w := by
  have main : ∀ q, eqF T 8 t x y = some q → (eqGuard op t xo yo x y).run P w = Result.ok () w ∧ (Op.equal t x y).run P w = Result.ok q w := fun q hq => by
    refine ⟨run_guardless w (fun ⟨e1, e2⟩ => ?_) (fun a b e1 e2 => ?_), run_eqF hT 8 10000 (by omega) _ _ _ _ _ hq⟩
    · subst e1; subst e2; exact eqF_nn hq
    · subst e1; subst e2; exact eqF_agg hT hq
  split at h
  · split at h <;> simp at h
    rename_i q hq
    subst h
    obtain ⟨m1, m2⟩ := main q hq
    simp [m1, binOp_eql h1 h2 h3 h4, m2]
  · split at h <;> simp at h
    rename_i q hq
    subst h
    obtain ⟨m1, m2⟩ := main q hq
    simp [m1, binOp_neq h1 h2 h3 h4, m2]
  · simp at h
omit hT in
theorem beq_toL (a b : ByteArray) : (a == b) = (a.toList == b.toList) := beq_toListBytes a b
theorem puBin_sound {op : BinOp} {t : Nat} {xo yo : Operand} {x y v : Value} (h : puBin T op t yo x y = some v) :
    (do eqGuard op t xo yo x y; binOp op t x y : Sem Value).run P w = Result.ok v w := by
  unfold puBin at h
  cases x with
  | int k a =>
    cases y <;> try (simp at h; done)
    rename_i k2 b
    simp only at h
    split at h <;> try (simp at h; done)
    rename_i hk; have := kEq_eq hk; subst this
    have hg := run_guardless (P := P) w (op := op) (t := t) (xo := xo) (yo := yo) (x := .int k a) (y := .int k b) (by simp) (by simp)
    simp [hg, puInt_sound w h]
  | string a =>
    cases y <;> try (simp at h; done)
    rename_i b
    have hg := run_guardless (P := P) w (op := op) (t := t) (xo := xo) (yo := yo) (x := .string a) (y := .string b) (by simp) (by simp)
    simp only at h
    split at h <;> simp at h <;> subst h <;> simp [hg, binOp, Op.stringOp, beq_toL]
  | nilIface =>
    cases y <;> try (simp at h; done)
    simp only at h
    split at h <;> try (simp at h; done)
    rename_i hc
    split at h <;> try (simp at h; done)
    rename_i i hi
    have hu := (hT.get hi).1
    split at h <;> try (simp at h; done)
    rename_i ms hd
    rw [hd] at hu
    have hy : ∃ v, yo = .const v := by cases yo <;> simp [isC] at hc ⊢
    obtain ⟨cv, rfl⟩ := hy
    have hq : (Op.equal t .nilIface .nilIface).run P w = Result.ok true w := eqn_nil 9999 w hu
    have hg : ∀ op, (eqGuard op t xo (.const cv) .nilIface .nilIface).run P w = Result.ok () w := fun op => by
      unfold eqGuard
      cases op <;> simp
    split at h <;> simp at h <;> subst h
    · simp [hg, binOp_eql (t := t) (x := .nilIface) (y := .nilIface) (by simp) (by simp) (by simp) (by simp), hq]
    · simp [hg, binOp_neq (t := t) (x := .nilIface) (y := .nilIface) (by simp) (by simp) (by simp) (by simp), hq]
  | float => simp at h
  | complex => simp at h
  | bool _ => exact puBin_gen hT w (by simp) (by simp) (by simp) (by simp) h
  | pointer _ => exact puBin_gen hT w (by simp) (by simp) (by simp) (by simp) h
  | slice _ _ _ => exact puBin_gen hT w (by simp) (by simp) (by simp) (by simp) h
  | map _ => exact puBin_gen hT w (by simp) (by simp) (by simp) (by simp) h
  | chan _ => exact puBin_gen hT w (by simp) (by simp) (by simp) (by simp) h
  | func _ _ _ => exact puBin_gen hT w (by simp) (by simp) (by simp) (by simp) h
  | nilFunc => exact puBin_gen hT w (by simp) (by simp) (by simp) (by simp) h
  | iface _ _ => exact puBin_gen hT w (by simp) (by simp) (by simp) (by simp) h
  | agg _ => exact puBin_gen hT w (by simp) (by simp) (by simp) (by simp) h
  | tuple _ => exact puBin_gen hT w (by simp) (by simp) (by simp) (by simp) h
end sound
end Go.Sh
namespace Go.Sh

def ob {α : Type} (o : Option Value) (f : Value → Option α) : Option α := match o with | some v => f v | none => none
def placesOf (T : List (Nat × TI)) : List Field → Option (List (Nat × Nat))
  | [] => some []
  | f :: r => match getT T f.type with
    | none => none
    | some ti => match placesOf T r with
      | none => none
      | some l => some ((f.offset, ti.size) :: l)
def puBuild (pl : List (Nat × Nat)) : List Value → List (Nat × Option Value) → Option (List Value)
  | cells, [] => some cells
  | cells, (i, v?) :: r => match v? with
    | none => none
    | some v => match pl[i]? with
      | none => none
      | some (off, sz) => match Nat.beq v.cells.toList.length sz with
          | false => none
          | true => match Nat.ble (off + v.cells.toList.length) cells.length with
            | false => none
            | true => puBuild pl (cells.take off ++ v.cells.toList ++ cells.drop (off + v.cells.toList.length)) r
def un (op : UnOp) (x : Value) : Option Value :=
  match op with
  | .not => match x with | .bool b => some (.bool (!b)) | _ => none
  | .neg => match x with | .int k n => some (.int k (k.wrap (0 - n))) | _ => none
  | _ => none
def cv (d s : TypeDesc) (x : Value) : Option Value :=
  match d with
  | .int k => match x with | .int _ n => some (.int k (k.wrap n)) | _ => none
  | .string => match s with
    | .string => match x with | .string _ => some x | _ => none
    | _ => none
  | _ => none
def isIf : TypeDesc → Bool
  | .interface _ => true
  | _ => false
def fldOff (d : TypeDesc) (i : Nat) : Option (Nat × Nat) :=
  match d with
  | .struct fs => match fs.toList[i]? with | some f => some (f.type, f.offset) | none => none
  | _ => none
def pAdd (p : Addr) : Nat → Addr
  | 0 => p
  | n + 1 => ⟨p.block, p.off + (n + 1), none⟩
theorem pAdd_eq (p : Addr) (n : Nat) : pAdd p n = p.add n := by cases n <;> simp [pAdd, Addr.add]
def lenOf? (T : List (Nat × TI)) (t : Nat) (x : Value) : Option Value :=
  match getT T t with
  | none => none
  | some i => match i.desc with
    | .string => match x with | .string s => some (.int .i64 s.size) | _ => none
    | .slice _ => match x with | .slice _ n _ => some (.int .i64 n) | _ => none
    | .array n _ => some (.int .i64 n)
    | _ => none
def mm (mx : Bool) (x y : Value) : Option Value :=
  match x with
  | .int k a => match y with | .int _ b => some (.int k (match mx with | true => (if b > a then b else a) | false => (if b < a then b else a))) | _ => none
  | _ => none
def allSome : List (Option Value) → Option (List Value)
  | [] => some []
  | none :: _ => none
  | some v :: r => match allSome r with | some l => some (v :: l) | none => none

def pu (T : List (Nat × TI)) (ev : Operand → Option Value) (op : Op) : Option Value :=
  match op with
  | .move x => ev x
  | .assign x => ev x
  | .build t parts => match getT T t with
    | none => none
    | some i => match i.desc with
      | .struct fs => match placesOf T fs.toList with
        | none => none
        | some pl => match puBuild pl i.zero.cells.toList (parts.toList.map fun (j, x) => (j, ev x)) with
          | some cs => some (.agg cs.toArray)
          | none => none
      | _ => none
  | .nilCheck x => ob (ev x) fun v => match v with | .pointer (some _) => some v | .iface _ _ => some v | .func (.func _) _ _ => some v | _ => none
  | .binOp b t x y _ => ob (ev x) fun vx => ob (ev y) fun vy => puBin T b t y vx vy
  | .unOp u _ x => ob (ev x) fun v => un u v
  | .convert s d x => ob (ev x) fun v => match getT T s with
    | none => none
    | some i => match getT T d with | none => none | some j => cv j.desc i.desc v
  | .makeInterface t x => ob (ev x) fun v => match getT T t with | none => none | some i => match isIf i.desc with | true => none | false => some (.iface t v)
  | .makeFunc fn first cap => match allSome (first.toList.map ev) with
    | none => none
    | some a => match allSome (cap.toList.map ev) with | none => none | some b => some (.func fn a.toArray b.toArray)
  | .extract t i => ob (ev t) fun v => match v with | .tuple vs => vs.toList[i]? | _ => none
  | .fieldAddr t x i => ob (ev x) fun v => match v with
    | .pointer (some p) => match getT T t with
      | none => none
      | some ti => match fldOff ti.desc i with
        | none => none
        | some (ft, off) => match getT T ft with
          | none => none
          | some fi => match fi.size with | 0 => none | _ + 1 => some (.pointer (some (pAdd p off)))
    | _ => none
  | .field t x i => ob (ev x) fun v => match v with
    | .agg cs => match getT T t with
      | none => none
      | some ti => match fldOff ti.desc i with | none => none | some (ft, off) => partF T ft cs.toList off
    | _ => none
  | .call c => match c.callee with
    | .builtin b => match b with
      | .len => match c.argTypes.toList with
        | t :: _ => match c.args.toList with
          | x :: _ => ob (ev x) fun v => lenOf? T t v
          | [] => none
        | [] => none
      | .max => match c.args.toList with
        | [x, y] => ob (ev x) fun a => ob (ev y) fun b => mm true a b
        | _ => none
      | .min => match c.args.toList with
        | [x, y] => ob (ev x) fun a => ob (ev y) fun b => mm false a b
        | _ => none
      | _ => none
    | _ => none
  | _ => none

section sound
variable {P : Program} {T : List (Nat × TI)} (hT : TabOkT P T) (w : World) {ρ : Operand → Value} {ev : Operand → Option Value} (hev : ∀ x v, ev x = some v → ρ x = v)

theorem ob_some {α : Type} {o : Option Value} {f : Value → Option α} {r : α} (h : ob o f = some r) : ∃ v, o = some v ∧ f v = some r := by
  cases o with
  | none => simp [ob] at h
  | some v => exact ⟨v, rfl, h⟩
theorem foldl_put (vs : List Value) : ∀ (cs : List Value) (off j : Nat), off + j + vs.length ≤ cs.length →
    ((vs.zipIdx j).foldl (fun (cs : Array Value) (c, j) => cs.setIfInBounds (off + j) c) cs.toArray).toList = cs.take (off + j) ++ vs ++ cs.drop (off + j + vs.length) := by
  induction vs with
  | nil => intro cs off j h; simp
  | cons v r ih =>
    intro cs off j h
    simp only [List.length_cons] at h
    simp only [List.zipIdx_cons, List.foldl_cons, List.setIfInBounds_toArray]
    rw [ih _ off (j + 1) (by simp; omega)]
    have hk : off + j < cs.length := by omega
    have e1 : (cs.set (off + j) v).take (off + (j + 1)) = cs.take (off + j) ++ [v] := by
      rw [show off + (j + 1) = off + j + 1 by omega, List.take_succ_eq_append_getElem (by simpa using hk), List.take_set_of_le (Nat.le_refl _)]
      simp
    have e2 : (cs.set (off + j) v).drop (off + (j + 1) + r.length) = cs.drop (off + (j + 1) + r.length) := List.drop_set_of_lt (by omega)
    rw [e1, e2, show off + j + (v :: r).length = off + (j + 1) + r.length by simp; omega]
    simp
theorem fill_sound (pl : List (Nat × Nat)) (g : Nat → Option (Nat × Nat)) (hg : ∀ i x, pl[i]? = some x → g i = some x) :
    ∀ (parts : List (Nat × Option Value)) (vals : List (Nat × Value)) (cells : List Value) (cs : List Value), vals.length = parts.length →
      (∀ (k i : Nat) (v? : Option Value), parts[k]? = some (i, v?) → ∀ v : Value, v? = some v → vals[k]? = some (i, v)) → puBuild pl cells parts = some cs →
      Instr.fill g cells.toArray vals = some cs.toArray
  | [], vals, cells, cs, hl, _, h => by
    have : vals = [] := List.eq_nil_of_length_eq_zero (by simpa using hl)
    subst this
    simp [puBuild] at h
    subst h
    rfl
  | (i, v?) :: r, vals, cells, cs, hl, hv, h => by
    unfold puBuild at h
    split at h; · simp at h
    rename_i v
    split at h; · simp at h
    rename_i off sz hf
    split at h; · simp at h
    rename_i hsz
    split at h; · simp at h
    rename_i hle
    have hsz := Nat.eq_of_beq_eq_true hsz
    have hle := Nat.le_of_ble_eq_true hle
    match vals, hl with
    | x :: vs, hl =>
      have h0 := hv 0 i (some v) rfl v rfl
      simp at h0
      subst h0
      have hf' := hg _ _ hf
      simp only [Instr.fill, hf']
      rw [if_neg (by simp at hsz hle ⊢; omega)]
      have hz := foldl_put v.cells.toList cells off 0 (by simpa using hle)
      have e1 : Array.foldl (fun cs (x : Value × Nat) => match x with | (c, j) => cs.setIfInBounds (off + j) c) cells.toArray v.cells.zipIdx
          = (cells.take off ++ v.cells.toList ++ cells.drop (off + v.cells.toList.length)).toArray := by
        apply Array.ext'
        rw [← Array.foldl_toList]
        simpa using hz
      rw [e1]
      refine fill_sound pl g hg r vs _ cs (by simpa using hl) (fun k i v? hk v hv' => ?_) h
      have := hv (k + 1) i v? (by simpa using hk) v hv'
      simpa using this
include hT in
theorem run_placesOf : ∀ (fs : List Field) (pl : List (Nat × Nat)), placesOf T fs = some pl →
    (fs.mapM (fun f => (do pure (f.offset, ← Go.sizeOf f.type) : Sem (Nat × Nat)))).run P w = Result.ok pl w
  | [], pl, h => by simp [placesOf] at h; subst h; rfl
  | f :: r, pl, h => by
    unfold placesOf at h
    split at h; · simp at h
    rename_i ti hti
    split at h; · simp at h
    rename_i l hl
    simp at h
    subst h
    have ih := run_placesOf r l hl
    simp only [List.mapM_cons, Sem.run_bind, run_size hT hti w, Result.andThen_ok, Sem.run_pure]
    rw [ih]; rfl
theorem allSome_spec : ∀ (l : List (Option Value)) (r : List Value), allSome l = some r → l = r.map some
  | [], r, h => by simp [allSome] at h; subst h; rfl
  | none :: _, r, h => by simp [allSome] at h
  | some v :: l, r, h => by
    unfold allSome at h
    split at h
    · rename_i l' hl'
      simp at h; subst h
      simp [allSome_spec l l' hl']
    · simp at h
include hev in
theorem map_ev {xs : Array Operand} {l : List Value} (h : allSome (xs.toList.map ev) = some l) : xs.map ρ = l.toArray := by
  have := allSome_spec _ _ h
  apply Array.ext'
  simp only [Array.toList_map]
  apply List.ext_getElem?
  intro i
  have hi := congrArg (·[i]?) this
  simp only [List.getElem?_map] at hi ⊢
  cases hx : xs.toList[i]? with
  | none =>
    rw [hx] at hi
    cases hl : l[i]? with
    | none => simp
    | some v => rw [hl] at hi; simp at hi
  | some x =>
    rw [hx] at hi
    simp only [Option.map_some] at hi
    cases hl : l[i]? with
    | none => rw [hl] at hi; simp at hi
    | some v => rw [hl] at hi; simp at hi; simp [hev x v hi]
include hT hev in
theorem pu_sound {o : Oper} {v : Value} (h : pu T ev o.op = some v) : (execOp ρ o).run P w = Result.ok (.value v) w := by
  unfold pu at h
  unfold execOp
  split at h
  · rename_i x e; simp only [e]; rw [hev _ _ h]; rfl
  · rename_i x e; simp only [e]; rw [hev _ _ h]; rfl
  · -- build
    rename_i t parts e
    simp only [e]
    split at h; · simp at h
    rename_i i hi
    split at h <;> try (simp at h; done)
    rename_i fs hd
    split at h; · simp at h
    rename_i pl hpl
    split at h <;> simp at h
    rename_i cs hcs
    subst h
    have hu := run_und hT hi w
    rw [hd] at hu
    have hp := run_placesOf hT w fs.toList pl hpl
    have hfill := fill_sound pl (fun i => pl.toArray[i]?) (fun i x h => by simpa using h) (parts.toList.map fun (j, x) => (j, ev x)) (parts.toList.map fun (j, x) => (j, ρ x)) i.zero.cells.toList cs (by simp)
      (fun k j v? hk v hv => by
        simp only [List.getElem?_map] at hk ⊢
        cases hx : parts.toList[k]? with
        | none => rw [hx] at hk; simp at hk
        | some y =>
          rw [hx] at hk
          simp only [Option.map_some, Option.some.injEq, Prod.mk.injEq] at hk
          obtain ⟨h1, h2⟩ := hk
          simp only [Option.map_some, Option.some.injEq, Prod.mk.injEq]
          exact ⟨h1, hev _ _ (h2.trans hv)⟩) hcs
    simp only [Instr.build, Sem.run_bind, run_zero hT hi, hu, Result.andThen_ok, Array.mapM_eq_mapM_toList, Sem.run_map] at hp ⊢
    rw [hp]
    simp only [Result.andThen_ok, Array.toList_map]
    rw [hfill]
    rfl
  · rename_i x e
    simp only [e]
    obtain ⟨vx, hx, h⟩ := ob_some h
    rw [hev _ _ hx]
    split at h <;> simp at h <;> subst h <;> rfl
  · -- binOp
    rename_i b t x y yt e
    simp only [e]
    obtain ⟨vx, hx, h⟩ := ob_some h
    obtain ⟨vy, hy, h⟩ := ob_some h
    rw [hev _ _ hx, hev _ _ hy]
    have := puBin_sound hT w (xo := x) (yo := y) h
    simp only [Sem.run_bind] at this ⊢
    rw [this]; rfl
  · -- unOp
    rename_i u t x e
    simp only [e]
    obtain ⟨vx, hx, h⟩ := ob_some h
    rw [hev _ _ hx]
    unfold un at h
    split at h
    · split at h <;> simp at h; subst h; rfl
    · split at h <;> simp at h; subst h; simp [Op.unary, Op.intArith]
    · simp at h
  · -- convert
    rename_i s d x e
    simp only [e]
    obtain ⟨vx, hx, h⟩ := ob_some h
    rw [hev _ _ hx]
    split at h; · simp at h
    rename_i i hi
    split at h; · simp at h
    rename_i j hj
    unfold cv at h
    split at h
    · rename_i k hk
      split at h <;> simp at h
      subst h
      simp only [convert, Sem.run_bind, run_und hT hi, run_und hT hj, Result.andThen_ok, hk]
      simp [Conv.intToInt]
    · rename_i hk
      split at h <;> try (simp at h; done)
      rename_i hs
      split at h <;> simp at h
      subst h
      simp only [convert, Sem.run_bind, run_und hT hi, run_und hT hj, Result.andThen_ok, hk, hs]
      simp
    · simp at h
  · -- makeInterface
    rename_i t x e
    simp only [e]
    obtain ⟨vx, hx, h⟩ := ob_some h
    rw [hev _ _ hx]
    split at h; · simp at h
    rename_i i hi
    split at h <;> simp at h
    rename_i hif
    subst h
    simp only [Instr.makeInterface, Sem.run_bind, run_und hT hi, Result.andThen_ok]
    unfold isIf at hif
    split at hif <;> simp at hif
    split
    · rename_i hno; simp_all
    · simp
  · -- makeFunc
    rename_i fn first cap e
    simp only [e]
    split at h; · simp at h
    rename_i a ha
    split at h <;> simp at h
    rename_i b hb
    subst h
    rw [map_ev hev ha, map_ev hev hb]
    rfl
  · -- extract
    rename_i t i e
    simp only [e]
    obtain ⟨vx, hx, h⟩ := ob_some h
    rw [hev _ _ hx]
    split at h <;> try (simp at h; done)
    rename_i vs
    simp only [Instr.extract]
    have : vs[i]? = some v := by rw [← h]; simp
    rw [this]; rfl
  · -- fieldAddr
    rename_i t x i e
    simp only [e]
    obtain ⟨vx, hx, h⟩ := ob_some h
    rw [hev _ _ hx]
    split at h <;> try (simp at h; done)
    rename_i p
    split at h; · simp at h
    rename_i ti hti
    split at h; · simp at h
    rename_i ft off hfo
    split at h; · simp at h
    rename_i fi hfi
    split at h <;> simp at h
    rename_i m hm
    subst h
    unfold fldOff at hfo
    split at hfo <;> try (simp at hfo; done)
    rename_i fs hd
    split at hfo <;> simp at hfo
    rename_i f hf
    obtain ⟨h1, h2⟩ := hfo
    subst h1; subst h2
    have hf' : fs[i]? = some f := by rw [← hf]; simp
    simp only [Instr.fieldAt, Sem.run_bind, run_und hT hti, Result.andThen_ok, hd, hf', Instr.sureAddr, Sem.run_pure, fieldPlace, run_size hT hfi, hm]
    simp [pAdd_eq]
  · -- field
    rename_i t x i e
    simp only [e]
    obtain ⟨vx, hx, h⟩ := ob_some h
    rw [hev _ _ hx]
    split at h <;> try (simp at h; done)
    rename_i cs
    split at h; · simp at h
    rename_i ti hti
    split at h; · simp at h
    rename_i ft off hfo
    unfold fldOff at hfo
    split at hfo <;> try (simp at hfo; done)
    rename_i fs hd
    split at hfo <;> simp at hfo
    rename_i f hf
    obtain ⟨h1, h2⟩ := hfo
    subst h1; subst h2
    have hf' : fs[i]? = some f := by rw [← hf]; simp
    simp only [Instr.field, Sem.run_bind, run_und hT hti, Result.andThen_ok, hd, hf', asAgg, Sem.run_pure, run_part hT w h]
  · -- call
    rename_i c e
    simp only [e]
    split at h <;> try (simp at h; done)
    rename_i b hc
    split at h
    · -- len
      split at h <;> try (simp at h; done)
      rename_i t ts ht
      split at h <;> try (simp at h; done)
      rename_i x xs hx
      obtain ⟨vx, hvx, h⟩ := ob_some h
      have ha : c.argTypes[0]? = some t := by rw [← Array.getElem?_toList, ht]; rfl
      have hb : (c.args.map ρ)[0]? = some vx := by rw [← Array.getElem?_toList, Array.toList_map, hx]; simp [hev _ _ hvx]
      unfold lenOf? at h
      split at h; · simp at h
      rename_i i hi
      simp only [resolve, hc, Sem.run_bind, Sem.run_pure, Result.andThen_ok, invoke, builtin, Builtin.len_, ha, hb, run_und hT hi]
      split at h
      · rename_i hd; split at h <;> simp at h; subst h; simp [hd, goInt]
      · rename_i hd; split at h <;> simp at h; subst h; simp [hd, goInt]
      · rename_i hd; simp at h; subst h; simp [hd, goInt]
      · simp at h
    · -- max
      split at h <;> try (simp at h; done)
      rename_i x y hxy
      obtain ⟨va, hva, h⟩ := ob_some h
      obtain ⟨vb, hvb, h⟩ := ob_some h
      unfold mm at h
      split at h <;> try (simp at h; done)
      split at h <;> simp at h
      subst h
      simp only [resolve, hc, Sem.run_bind, Sem.run_pure, Result.andThen_ok, invoke, builtin, Builtin.max_, Array.toList_map, hxy, List.map_cons, List.map_nil, hev _ _ hva, hev _ _ hvb]
      simp [Builtin.max2]
    · -- min
      split at h <;> try (simp at h; done)
      rename_i x y hxy
      obtain ⟨va, hva, h⟩ := ob_some h
      obtain ⟨vb, hvb, h⟩ := ob_some h
      unfold mm at h
      split at h <;> try (simp at h; done)
      split at h <;> simp at h
      subst h
      simp only [resolve, hc, Sem.run_bind, Sem.run_pure, Result.andThen_ok, invoke, builtin, Builtin.min_, Array.toList_map, hxy, List.map_cons, List.map_nil, hev _ _ hva, hev _ _ hvb]
      simp [Builtin.min2]
    · simp at h
  · simp at h
end sound
end Go.Sh
namespace Go.Sh

def obp (o : Option Value) (f : Value → Prop) : Prop := match o with | some v => f v | none => False
def evF (F : Fr) : Operand → Option Value
  | .tmp t => look F.env t
  | .const v => some v
  | .global g => some (.pointer (some ⟨g, 0, none⟩))
  | .func f => some (.func (.func f) #[] #[])
def cat (a b : List Value) : List Value := match b with | [] => a | _ :: _ => a ++ b
def alo (o : Option (List Value)) (f : List Value → Prop) : Prop := match o with | some v => f v | none => False
def optL (ev : Operand → Option Value) : Option Operand → Option (Option Value)
  | none => some none
  | some x => match ev x with | some v => some (some v) | none => none
def obo (o : Option (Option Value)) (f : Option Value → Prop) : Prop := match o with | some v => f v | none => False

section
variable (P : Program) (T : Tab)
def exCall (ev : Operand → Option Value) (c : Call) (ty : TypeId) (w : World) (k : Value → World → Prop) (X : List PanicEntry → World → Prop) : Prop :=
  alo (allSome (c.args.toList.map ev)) fun args =>
  match c.callee with
  | .value f => obp (ev f) fun vf => match vf with
    | .func fn first cap => match fn with
      | .func g => match memN T.fs g with
        | true => Cl P g (cat (first.toList ++ args) cap.toList).toArray w k X
        | false => False
      | _ => False
    | _ => False
  | .builtin b => match b with
    | .append => Sm P (Builtin.append_ c.argTypes ty args.toArray) w k X
    | .cap => Sm P (Builtin.cap_ c.argTypes ty args.toArray) w k X
    | .clear => Sm P (Builtin.clear_ c.argTypes ty args.toArray) w k X
    | .copy => Sm P (Builtin.copy_ c.argTypes ty args.toArray) w k X
    | .delete => Sm P (Builtin.delete_ c.argTypes ty args.toArray) w k X
    | .len => Sm P (Builtin.len_ c.argTypes ty args.toArray) w k X
    | .max => Sm P (Builtin.max_ c.argTypes ty args.toArray) w k X
    | .min => Sm P (Builtin.min_ c.argTypes ty args.toArray) w k X
    | .panic => match args with
      | [v] => match v with | .iface _ _ => X [{ v, recovered := false }] w | _ => False
      | _ => False
    | _ => False
  | _ => False
def exOp (ev : Operand → Option Value) (o : Oper) (w : World) (k : Value → World → Prop) (X : List PanicEntry → World → Prop) : Prop :=
  match pu T.ts ev o.op with
  | some v => k v w
  | none => match o.op with
    | .pick c a b => obp (ev c) fun vc => obp (ev a) fun va => obp (ev b) fun vb => match vc with | .bool t => Gd t (k va w) (k vb w) | _ => False
    | .alloc t => match getT T.ts t with
      | none => False
      | some i => Al i.zero.cells.toList t w fun p w' => k (.pointer (some ⟨p, 0, none⟩)) w'
    | .box t x => obp (ev x) fun v => Al v.cells.toList t w fun p w' => k (.pointer (some ⟨p, 0, none⟩)) w'
    | .load t a => obp (ev a) fun va => match va with
      | .pointer (some p) => match getT T.ts t with
        | none => False
        | some i => match aggD i.desc with
          | true => Ld w p i.size fun vs => k (.agg vs.toArray) w
          | false => Ld1 w p fun v => k v w
      | _ => False
    | .store t a x => obp (ev a) fun va => obp (ev x) fun v => match va with
      | .pointer (some p) => match getT T.ts t with
        | none => False
        | some i => match Nat.beq v.cells.toList.length i.size with
          | true => St w p v.cells.toList fun w' => k undef w'
          | false => False
      | _ => False
    | .indexAddr t x i => obp (ev x) fun vx => obp (ev i) fun vi => match vi with
      | .int _ n => match getT T.ts t with
        | none => False
        | some ti => match ti.desc with
          | .slice e => match getT T.ts e with
            | none => False
            | some ei => match vx with | .slice A len _ => Ix A len n ei.size fun ad => k (.pointer (some ad)) w | _ => False
          | .array len e => match getT T.ts e with
            | none => False
            | some ei => match vx with | .pointer (some p) => Ix (some p) len n ei.size fun ad => k (.pointer (some ad)) w | _ => False
          | _ => False
      | _ => False
    | .index t x i => obp (ev x) fun vx => obp (ev i) fun vi => Sm P (Instr.index t vx vi) w k X
    | .slice t x lo hi mx => obp (ev x) fun vx => obo (optL ev lo) fun a => obo (optL ev hi) fun b => obo (optL ev mx) fun c => Sm P (Instr.sliceAt t vx a b c) w k X
    | .binOp b t x y _ => obp (ev x) fun vx => obp (ev y) fun vy => Sm P (do eqGuard b t x y vx vy; binOp b t vx vy) w k X
    | .makeMap t r => match r with | none => Sm P (Instr.makeMap t none) w k X | some x => obp (ev x) fun v => Sm P (Instr.makeMap t (some v)) w k X
    | .makeSlice t l c => obp (ev l) fun vl => obp (ev c) fun vc => Sm P (Instr.makeSlice t vl vc) w k X
    | .buildSlice t len parts => alo (allSome (parts.toList.map fun p => ev p.2)) fun vs => Sm P (Instr.buildSlice t len ((parts.toList.map (·.1)).zip vs).toArray) w k X
    | .lookup t x i ok => obp (ev x) fun vx => obp (ev i) fun vi => Sm P (Instr.lookup t vx vi ok) w k X
    | .mapUpdate t m i x => obp (ev m) fun vm => obp (ev i) fun vi => obp (ev x) fun vx => SmU P (Instr.mapUpdate t vm vi vx) w (fun w' => k undef w') X
    | .insert t m i x => obp (ev m) fun vm => obp (ev i) fun vi => obp (ev x) fun vx => SmU P (Instr.mapUpdate t vm vi vx) w (fun w' => k undef w') X
    | .mapEntry t m i => obp (ev m) fun vm => obp (ev i) fun vi => Sm P (Instr.mapEntry t vm vi) w k X
    | .entryStore t m i x => obp (ev m) fun vm => obp (ev i) fun vi => obp (ev x) fun vx => SmU P (Instr.entryStore t vm vi vx) w (fun w' => k undef w') X
    | .range t x => obp (ev x) fun vx => Sm P (Instr.range t vx) w k X
    | .next x s => obp (ev x) fun vx => Sm P (Instr.next vx s o.type) w k X
    | .entry x => obp (ev x) fun vx => Sm P (Instr.entry vx) w k X
    | .typeAssert x t u ok => obp (ev x) fun vx => Sm P (Instr.typeAssert vx t u ok) w k X
    | .convert s d x => obp (ev x) fun vx => Sm P (convert s d vx) w k X
    | .panic x => obp (ev x) fun v => match v with | .iface _ _ => X [{ v, recovered := false }] w | _ => False
    | .call c => exCall P T ev c o.type w k X
    | _ => False

variable {P T}
section sound
variable (hT : TabOk P T) {a : Act} {w : World} {ev : Operand → Option Value} (hev : ∀ x v, ev x = some v → a.eval x = v)
  {next : Act → World → Prop} {Q : Exit → Act → World → Prop}

theorem obp_some {o : Option Value} {f : Value → Prop} (h : obp o f) : ∃ v, o = some v ∧ f v := by
  cases o with
  | none => exact h.elim
  | some v => exact ⟨v, rfl, h⟩
theorem alo_some {o : Option (List Value)} {f : List Value → Prop} (h : alo o f) : ∃ v, o = some v ∧ f v := by
  cases o with
  | none => exact h.elim
  | some v => exact ⟨v, rfl, h⟩
theorem obo_some {o : Option (Option Value)} {f : Option Value → Prop} (h : obo o f) : ∃ v, o = some v ∧ f v := by
  cases o with
  | none => exact h.elim
  | some v => exact ⟨v, rfl, h⟩
include hev in
theorem optL_ev {x : Option Operand} {v : Option Value} (h : optL ev x = some v) : x.map a.eval = v := by
  cases x with
  | none => simp [optL] at h; subst h; rfl
  | some x =>
    simp only [optL] at h
    split at h <;> simp at h
    subst h
    rename_i u hu
    simp [hev _ _ hu]
theorem upon_val {o : Oper} {v : Value} {w' : World} {r : Result Next} (hr : r = Result.ok (.value v) w') (h : next (a.put o.dst v) w') : o.upon P a next Q r := by
  subst hr; exact h
theorem upon_skip' {o : Oper} {w' : World} {r : Result Next} (hr : r = Result.ok .skip w') (h : next (a.put o.dst undef) w') : o.upon P a next Q r := by
  subst hr; exact h
theorem upon_Sm {o : Oper} {s : Sem Value} {k : Value → World → Prop} {X : List PanicEntry → World → Prop} {r : Result Next}
    (hr : r = (do pure (.value (← s)) : Sem Next).run P w) (h : Sm P s w k X) (hk : ∀ v w', k v w' → next (a.put o.dst v) w') (hX : ∀ ch w', X ch w' → Q (.panic ch) a w') : o.upon P a next Q r := by
  subst hr
  replace h := h.out
  simp only [Sem.run_bind]
  cases hs : s.run P w with
  | ok v w' => rw [hs] at h; exact hk _ _ h
  | halt x w' =>
    rw [hs] at h
    cases x with
    | panic v => exact hX _ _ h
    | _ => exact h.elim
theorem upon_SmU {o : Oper} {s : Sem Unit} {k : World → Prop} {X : List PanicEntry → World → Prop} {r : Result Next}
    (hr : r = (do s; pure .skip : Sem Next).run P w) (h : SmU P s w k X) (hk : ∀ w', k w' → next (a.put o.dst undef) w') (hX : ∀ ch w', X ch w' → Q (.panic ch) a w') : o.upon P a next Q r := by
  subst hr
  replace h := h.out
  simp only [Sem.run_bind]
  cases hs : s.run P w with
  | ok v w' => rw [hs] at h; exact hk _ h
  | halt x w' =>
    rw [hs] at h
    cases x with
    | panic v => exact hX _ _ h
    | _ => exact h.elim
theorem upon_Cl {o : Oper} {f : Nat} {args : Array Value} {k : Value → World → Prop} {X : List PanicEntry → World → Prop} {r : Result Next}
    (hr : r = Result.ok (.enter f args) w) (h : Cl P f args w k X) (hk : ∀ v w', k v w' → next (a.put o.dst v) w') (hX : ∀ ch w', X ch w' → Q (.panic ch) a w') : o.upon P a next Q r := by
  subst hr
  refine Calls.mono h.out fun e w' q => ?_
  cases e with
  | returned v => exact hk _ _ q
  | panicked ch => exact hX _ _ q
  | outgrown => exact q.elim
theorem run_storeCells_sh (p : Addr) : ∀ (vs : List Value) (i : Nat) (w : World), (∀ v ∈ vs, v.oneCell' = true) →
    (∀ j, j < vs.length → (∃ u, w.cell? (p.add (i + j)) = some u) ∧ w.frozen? (p.add (i + j)) = false) →
    (storeCells p vs i).run P w = Result.ok () (setCells w p vs i)
  | [], i, w, _, _ => rfl
  | v :: r, i, w, h1, hc => by
    obtain ⟨⟨u, hu⟩, hf⟩ := hc 0 (by simp)
    simp only [Nat.add_zero] at hu hf
    have hst : (store (p.add i) v).run P w = Result.ok () (w.setCell (p.add i) v) := by
      rw [run_store P w _ v _ (h1 v (by simp))]
      simp [hu, hf]
    simp only [storeCells, Sem.run_bind, hst, Result.andThen_ok, setCells]
    refine run_storeCells_sh p r (i + 1) _ (fun v hv => h1 v (by simp [hv])) fun j hj => ?_
    obtain ⟨⟨u', hu'⟩, hf'⟩ := hc (j + 1) (by simp; omega)
    rw [show i + 1 + j = i + (j + 1) by omega]
    refine ⟨?_, ?_⟩
    · by_cases e : p.add (i + (j + 1)) = p.add i
      · rw [e]
        have := RowKit.cell?_setCell_some (w := w) (p := p.add i) (x := v) (q := p.add i) (v := u) hu
        exact ⟨_, this.choose_spec⟩
      · obtain ⟨y, hy⟩ := RowKit.cell?_setCell_some (w := w) (p := p.add i) (x := v) (q := p.add (i + (j + 1))) (v := u') hu'
        exact ⟨y, hy⟩
    · rw [World.frozen?_setCell]; exact hf'
include hT hev in
theorem exCall_sound {o : Oper} {c : Call} (e : o.op = .call c) {k : Value → World → Prop} {X : List PanicEntry → World → Prop} (h : exCall P T ev c o.type w k X)
    (hk : ∀ v w', k v w' → next (a.put o.dst v) w') (hX : ∀ ch w', X ch w' → Q (.panic ch) a w') : o.wp P a w next Q := by
  unfold exCall at h
  obtain ⟨args, hargs, h⟩ := alo_some h
  have ha := map_ev hev hargs
  unfold Oper.wp execOp
  simp only [e]
  split at h
  · rename_i f hc
    obtain ⟨vf, hf, h⟩ := obp_some h
    split at h <;> try (exact h.elim)
    rename_i fn first cap
    split at h <;> try (exact h.elim)
    rename_i g
    split at h <;> try (exact h.elim)
    rename_i hg
    obtain ⟨fun_, h1, h2, h3⟩ := hT.2.get hg
    have hcat : (cat (first.toList ++ args) cap.toList).toArray = first ++ args.toArray ++ cap := by
      obtain ⟨fl⟩ := first; obtain ⟨cl⟩ := cap
      cases cl <;> simp [cat]
    refine upon_Cl (f := g) (args := (cat (first.toList ++ args) cap.toList).toArray) ?_ h hk hX
    simp only [resolve, hc, hev _ _ hf, Deferred.ofValue, ha, hcat]
    have h2' : fun_.name ≠ "runtime.NumGoroutine" := by simpa using h2
    have h3' : fun_.body ≠ none := by intro hn; simp [hn] at h3
    simp [invoke, callFunc, h1, h2', h3']
  · rename_i b hc
    split at h
    all_goals first
      | exact h.elim
      | (refine upon_Sm ?_ h hk hX; simp only [resolve, hc, ha, Sem.run_bind, Sem.run_pure, Result.andThen_ok, invoke, builtin])
      | skip
    split at h <;> try (exact h.elim)
    split at h <;> try (exact h.elim)
    rename_i t v
    simp only [resolve, hc, ha, Sem.run_bind, Sem.run_pure, Result.andThen_ok, invoke, builtin]
    exact hX _ _ h
  · exact h.elim
include hT hev in
theorem exOp_sound {o : Oper} {k : Value → World → Prop} {X : List PanicEntry → World → Prop} (h : exOp P T ev o w k X)
    (hk : ∀ v w', k v w' → next (a.put o.dst v) w') (hX : ∀ ch w', X ch w' → Q (.panic ch) a w') : o.wp P a w next Q := by
  unfold exOp at h
  split at h
  · rename_i v hv
    exact upon_val (pu_sound hT.1 w hev hv) (hk _ _ h)
  · rename_i hnone; clear hnone
    split at h
    · -- pick
      rename_i c x y e
      replace h := obp_some h; obtain ⟨vc, hc, h⟩ := h
      replace h := obp_some h; obtain ⟨vx, hx, h⟩ := h
      replace h := obp_some h; obtain ⟨vy, hy, h⟩ := h
      split at h <;> try (exact h.elim)
      rename_i t
      unfold Oper.wp execOp
      simp only [e, hev _ _ hc, hev _ _ hx, hev _ _ hy]
      cases t
      · exact upon_val (v := vy) (w' := w) (by simp [asBool]) (hk _ _ (h.2 rfl))
      · exact upon_val (v := vx) (w' := w) (by simp [asBool]) (hk _ _ (h.1 rfl))
    · -- alloc
      rename_i t e
      split at h <;> try (exact h.elim)
      rename_i i hi
      unfold Oper.wp execOp
      simp only [e]
      refine upon_val (w' := w.alloc (.cells i.zero.cells t)) (v := .pointer (some ⟨w.heap.size, 0, none⟩)) ?_ (hk _ _ h.out)
      simp [Instr.alloc, run_zero hT.1 hi, newVar, newRow]
    · -- box
      rename_i t x e
      replace h := obp_some h; obtain ⟨v, hx, h⟩ := h
      unfold Oper.wp execOp
      simp only [e, hev _ _ hx]
      refine upon_val (w' := w.alloc (.cells v.cells t)) (v := .pointer (some ⟨w.heap.size, 0, none⟩)) ?_ (hk _ _ h.out)
      simp [Instr.box, newVar, newRow]
    · -- load
      rename_i t x e
      replace h := obp_some h; obtain ⟨v, hx, h⟩ := h
      split at h <;> try (exact h.elim)
      rename_i p
      split at h <;> try (exact h.elim)
      rename_i i hi
      unfold Oper.wp execOp
      simp only [e, hev _ _ hx]
      split at h
      · rename_i hag
        obtain ⟨vs, hl, hc, h⟩ := h
        refine upon_val (w' := w) (v := .agg vs.toArray) ?_ (hk _ _ h)
        have := run_loadCells_list (P := P) w p vs hc
        rw [hl] at this
        simp [Instr.loadAt, Instr.sureAddr, loadVar, run_isAgg hT.1 w hi, hag, run_size hT.1 hi, this]
      · rename_i hag
        obtain ⟨u, hu, h⟩ := h
        refine upon_val (w' := w) (v := u) ?_ (hk _ _ h)
        simp [Instr.loadAt, Instr.sureAddr, loadVar, run_isAgg hT.1 w hi, hag, hu]
    · -- store
      rename_i t x y e
      replace h := obp_some h; obtain ⟨v, hx, h⟩ := h
      replace h := obp_some h; obtain ⟨u, hy, h⟩ := h
      split at h <;> try (exact h.elim)
      rename_i p
      split at h <;> try (exact h.elim)
      rename_i i hi
      split at h <;> try (exact h.elim)
      rename_i hsz
      have hsz := Nat.eq_of_beq_eq_true hsz
      obtain ⟨h1, hc, h⟩ := h
      unfold Oper.wp execOp
      simp only [e, hev _ _ hx, hev _ _ hy]
      refine upon_skip' (w' := setCells w p u.cells.toList 0) ?_ (hk _ _ h)
      have := run_storeCells_sh (P := P) p u.cells.toList 0 w h1 (fun j hj => by simpa using hc j hj)
      have hs' : u.cells.size = i.size := by simpa using hsz
      simp [Instr.storeAt, Instr.sureAddr, storeVar, run_size hT.1 hi, this, hs']
    · -- indexAddr
      rename_i t x y e
      replace h := obp_some h; obtain ⟨v, hx, h⟩ := h
      replace h := obp_some h; obtain ⟨u, hy, h⟩ := h
      split at h <;> try (exact h.elim)
      rename_i kk n
      split at h <;> try (exact h.elim)
      rename_i ti hti
      unfold Oper.wp execOp
      simp only [e, hev _ _ hx, hev _ _ hy]
      split at h
      · rename_i el hd
        split at h <;> try (exact h.elim)
        rename_i ei hei
        split at h <;> try (exact h.elim)
        rename_i A len cap
        obtain ⟨hn, h0, h1, h⟩ := h
        obtain ⟨ad, rfl⟩ : ∃ ad, A = some ad := Option.ne_none_iff_exists'.1 hn
        simp only [gA] at h
        refine upon_val (w' := w) (v := .pointer (some (ad.add (n.toNat * ei.size)))) ?_ (hk _ _ h)
        simp [Instr.indexAt, asIntOf, run_und hT.1 hti, hd, h0, h1, run_size hT.1 hei]
      · rename_i len el hd
        split at h <;> try (exact h.elim)
        rename_i ei hei
        split at h <;> try (exact h.elim)
        rename_i p
        obtain ⟨_, h0, h1, h⟩ := h
        simp only [gA] at h
        refine upon_val (w' := w) (v := .pointer (some (p.add (n.toNat * ei.size)))) ?_ (hk _ _ h)
        simp [Instr.indexAt, asIntOf, run_und hT.1 hti, hd, h0, h1, run_size hT.1 hei, Instr.sureAddr]
      · exact h.elim
    · rename_i t x y e
      replace h := obp_some h; obtain ⟨v0, h0, h⟩ := h
      replace h := obp_some h; obtain ⟨v1, h1, h⟩ := h
      unfold Oper.wp execOp
      simp only [e, hev _ _ h0, hev _ _ h1]
      exact upon_Sm rfl h hk hX
    · rename_i t x lo hi mx e
      replace h := obp_some h; obtain ⟨v0, h0, h⟩ := h
      replace h := obo_some h; obtain ⟨v1, h1, h⟩ := h
      replace h := obo_some h; obtain ⟨v2, h2, h⟩ := h
      replace h := obo_some h; obtain ⟨v3, h3, h⟩ := h
      unfold Oper.wp execOp
      simp only [e, hev _ _ h0, optL_ev hev h1, optL_ev hev h2, optL_ev hev h3]
      exact upon_Sm rfl h hk hX
    · rename_i b t x y yt e
      replace h := obp_some h; obtain ⟨v0, h0, h⟩ := h
      replace h := obp_some h; obtain ⟨v1, h1, h⟩ := h
      unfold Oper.wp execOp
      simp only [e, hev _ _ h0, hev _ _ h1]
      exact upon_Sm rfl h hk hX
    · rename_i t r e
      split at h
      · unfold Oper.wp execOp
        simp only [e]
        exact upon_Sm rfl h hk hX
      · rename_i x
        replace h := obp_some h; obtain ⟨v0, h0, h⟩ := h
        unfold Oper.wp execOp
        simp only [e]
        refine upon_Sm ?_ h hk hX
        simp [hev _ _ h0]
    · rename_i t x y e
      replace h := obp_some h; obtain ⟨v0, h0, h⟩ := h
      replace h := obp_some h; obtain ⟨v1, h1, h⟩ := h
      unfold Oper.wp execOp
      simp only [e, hev _ _ h0, hev _ _ h1]
      exact upon_Sm rfl h hk hX
    · rename_i t len parts e
      replace h := alo_some h; obtain ⟨vs, hvs, h⟩ := h
      unfold Oper.wp execOp
      simp only [e]
      refine upon_Sm ?_ h hk hX
      have hm := allSome_spec _ _ hvs
      have : (parts.map fun x => (x.1, a.eval x.2)) = ((parts.toList.map (·.1)).zip vs).toArray := by
        apply Array.ext'
        simp only [Array.toList_map]
        apply List.ext_getElem?
        intro i
        have hi := congrArg (·[i]?) hm
        simp only [List.getElem?_map] at hi ⊢
        cases hp : parts.toList[i]? with
        | none =>
          rw [hp] at hi
          cases hv : vs[i]? with
          | none => simp only [Option.map_none]; symm; rw [List.getElem?_eq_none_iff]; simp at hp hv ⊢; omega
          | some v => rw [hv] at hi; simp at hi
        | some y =>
          rw [hp] at hi
          cases hv : vs[i]? with
          | none => rw [hv] at hi; simp at hi
          | some v =>
            rw [hv] at hi
            simp at hi
            simp only [Option.map_some]
            symm
            rw [List.getElem?_zip_eq_some]
            simp [hp, hv, hev _ _ hi]
      rw [← this]
    · rename_i t x i ok e
      replace h := obp_some h; obtain ⟨v0, h0, h⟩ := h
      replace h := obp_some h; obtain ⟨v1, h1, h⟩ := h
      unfold Oper.wp execOp
      simp only [e, hev _ _ h0, hev _ _ h1]
      exact upon_Sm rfl h hk hX
    · rename_i t m i x e
      replace h := obp_some h; obtain ⟨v0, h0, h⟩ := h
      replace h := obp_some h; obtain ⟨v1, h1, h⟩ := h
      replace h := obp_some h; obtain ⟨v2, h2, h⟩ := h
      unfold Oper.wp execOp
      simp only [e, hev _ _ h0, hev _ _ h1, hev _ _ h2]
      exact upon_SmU rfl h (fun w' q => hk _ _ q) hX
    · rename_i t m i x e
      replace h := obp_some h; obtain ⟨v0, h0, h⟩ := h
      replace h := obp_some h; obtain ⟨v1, h1, h⟩ := h
      replace h := obp_some h; obtain ⟨v2, h2, h⟩ := h
      unfold Oper.wp execOp
      simp only [e, hev _ _ h0, hev _ _ h1, hev _ _ h2]
      exact upon_SmU rfl h (fun w' q => hk _ _ q) hX
    · rename_i t m i e
      replace h := obp_some h; obtain ⟨v0, h0, h⟩ := h
      replace h := obp_some h; obtain ⟨v1, h1, h⟩ := h
      unfold Oper.wp execOp
      simp only [e, hev _ _ h0, hev _ _ h1]
      exact upon_Sm rfl h hk hX
    · rename_i t m i x e
      replace h := obp_some h; obtain ⟨v0, h0, h⟩ := h
      replace h := obp_some h; obtain ⟨v1, h1, h⟩ := h
      replace h := obp_some h; obtain ⟨v2, h2, h⟩ := h
      unfold Oper.wp execOp
      simp only [e, hev _ _ h0, hev _ _ h1, hev _ _ h2]
      exact upon_SmU rfl h (fun w' q => hk _ _ q) hX
    · rename_i t x e
      replace h := obp_some h; obtain ⟨v0, h0, h⟩ := h
      unfold Oper.wp execOp
      simp only [e, hev _ _ h0]
      exact upon_Sm rfl h hk hX
    · rename_i x s e
      replace h := obp_some h; obtain ⟨v0, h0, h⟩ := h
      unfold Oper.wp execOp
      simp only [e, hev _ _ h0]
      exact upon_Sm rfl h hk hX
    · rename_i x e
      replace h := obp_some h; obtain ⟨v0, h0, h⟩ := h
      unfold Oper.wp execOp
      simp only [e, hev _ _ h0]
      exact upon_Sm rfl h hk hX
    · rename_i x t u ok e
      replace h := obp_some h; obtain ⟨v0, h0, h⟩ := h
      unfold Oper.wp execOp
      simp only [e, hev _ _ h0]
      exact upon_Sm rfl h hk hX
    · rename_i s d x e
      replace h := obp_some h; obtain ⟨v0, h0, h⟩ := h
      unfold Oper.wp execOp
      simp only [e, hev _ _ h0]
      exact upon_Sm rfl h hk hX
    · rename_i x e
      replace h := obp_some h; obtain ⟨v0, h0, h⟩ := h
      split at h <;> try (exact h.elim)
      unfold Oper.wp execOp
      simp only [e, hev _ _ h0]
      exact hX _ _ h
    · rename_i c e
      exact exCall_sound hT hev e h hk hX
    · exact h.elim
end sound
end
end Go.Sh
namespace Go.Sh

def dstOk (n : Nat) : Option Nat → Bool
  | none => true
  | some d => Nat.blt d n
def guardV (all : List Oper) (F : Fr) (j : Nat) : Option (Nat × Value) :=
  match all[j]? with
  | none => none
  | some o => match o.dst with
    | none => none
    | some d => match look F.env d with | some v => some (d, v) | none => none
section
variable (P : Program) (T : Tab) (n : Nat)
def stepOps (all : List Oper) (o : Oper) (_r : List Oper) (ih : Fr → World → (Fr → World → Prop) → (List PanicEntry → Fr → World → Prop) → Prop)
    (F : Fr) (w : World) (k : Fr → World → Prop) (X : List PanicEntry → Fr → World → Prop) : Prop :=
    match dstOk n o.dst with
    | false => False
    | true => match o.guard with
      | none => match o.op with
        | .defer c => alo (allSome (c.args.toList.map (evF F))) fun args => match c.callee with
          | .value f => obp (evF F f) fun vf => match vf with
            | .func fn first cap => ih (({ F with ds := { target := .fn fn cap, args := first ++ args.toArray } :: F.ds } : Fr).put o.dst undef) w k X
            | _ => False
          | _ => False
        | _ => exOp P T (evF F) o w (fun v w' => ih (F.put o.dst v) w' k X) (fun ch w' => X ch F w')
      | some (j, want) => match guardV all F j with
        | none => False
        | some (d, v) => match v with
          | .bool b => match want with
            | true => Gd b (exOp P T (evF (F.put (some d) (.bool true))) o w (fun v w' => ih ((F.put (some d) (.bool true)).put o.dst v) w' k X) (fun ch w' => X ch (F.put (some d) (.bool true)) w'))
                (ih ((F.put (some d) (.bool false)).put o.dst undef) w k X)
            | false => Gd b (ih ((F.put (some d) (.bool true)).put o.dst undef) w k X)
                (exOp P T (evF (F.put (some d) (.bool false))) o w (fun v w' => ih ((F.put (some d) (.bool false)).put o.dst v) w' k X) (fun ch w' => X ch (F.put (some d) (.bool false)) w'))
          | .tuple _ => ih (F.put o.dst undef) w k X
          | _ => False
def exOps (all : List Oper) (l : List Oper) : Fr → World → (Fr → World → Prop) → (List PanicEntry → Fr → World → Prop) → Prop :=
  List.rec (motive := fun _ => Fr → World → (Fr → World → Prop) → (List PanicEntry → Fr → World → Prop) → Prop) (fun F w k _ => k F w) (stepOps P T n all) l

def Lift (K : Exit → Fr → World → Prop) : Exit → Act → World → Prop := fun e a w => ∃ F, Agr n F a ∧ K e F w
/-- a loop, and a region whose order is drawn: as they are -/
structure Lp (c : Code) (F : Fr) (w : World) (K : Exit → Fr → World → Prop) : Prop where
  of ::
  out : ∀ a, Agr n F a → (Code.loop c).wp P (Lift n K) a w
structure Dr (id : Nat) (ops : Array Oper) (F : Fr) (w : World) (K : Exit → Fr → World → Prop) : Prop where
  of ::
  out : ∀ a, Agr n F a → (Code.region id ops true).wp P (Lift n K) a w
structure Sq (x : (Exit → Fr → World → Prop) → Prop) (y : Fr → World → Prop) (K : Exit → Fr → World → Prop) : Prop where
  of ::
  out : x fun e F w => match e with | .normal => y F w | e => K e F w
abbrev CC := Fr → World → (Exit → Fr → World → Prop) → Prop
def cN : CC := fun F w K => K .normal F w
def cF : CC := fun _ _ _ => False
def cRegion (id : Nat) (ops : Array Oper) (draw : Bool) : CC := fun F w K =>
  match draw with
    | false => exOps P T n ops.toList ops.toList F w (fun F w => K .normal F w) (fun ch F w => K (.panic ch) F w)
    | true => Dr P n id ops F w K
def cSeq (x y : CC) : CC := fun F w K => Sq (fun K' => x F w K') (fun F w => y F w K) K
def cCond (c : Operand) (x y : CC) : CC := fun F w K => obp (evF F c) fun v => match v with | .bool b => Gd b (x F w K) (y F w K) | _ => False
def cBlock (id : Nat) (x : CC) : CC := fun F w K => x F w fun e F w => match e with
    | .exit i => match Nat.beq i id with | true => K .normal F w | false => K (.exit i) F w
    | e => K e F w
def cScope (x : CC) : CC := fun F w K => x F w fun e F w => match e with | .goto _ => False | e => K e F w
def exC (c : Code) : CC :=
  Code.rec (motive := fun _ => CC) cN (cRegion P T n) (fun _ _ x y => cSeq x y) (fun c _ _ x y => cCond c x y) (fun id _ x => cBlock id x) (fun c _ => fun F w K => Lp P n c F w K)
    (fun _ _ _ _ _ _ => cF) (fun id => fun F w K => K (.exit id) F w) (fun _ x => cScope x) (fun _ => cN) (fun l => fun F w K => K (.goto l) F w) (fun F w K => K .ret F w) (fun _ => cF) c

variable {P T n}
theorem Agr.ev {F : Fr} {a : Act} (h : Agr n F a) : ∀ x v, evF F x = some v → a.eval x = v := by
  intro x v hx
  cases x with
  | tmp t =>
    have := h.2.2 t v hx
    simp [Act.eval, Array.getD_eq_getD_getElem?, this]
  | const c => simpa [evF, Act.eval] using hx
  | global g => simpa [evF, Act.eval] using hx
  | func f => simpa [evF, Act.eval] using hx
theorem Agr.put {F : Fr} {a : Act} (h : Agr n F a) {d : Option Nat} (hd : dstOk n d = true) (v : Value) : Agr n (F.put d v) (a.put d v) := by
  cases d with
  | none => exact h
  | some d =>
    obtain ⟨h1, h2, h3⟩ := h
    have hd' : d < n := by simpa [dstOk] using hd
    refine ⟨by simpa [Act.put] using h1, by simpa [Act.put, Fr.put] using h2, fun t u ht => ?_⟩
    simp only [Fr.put, look] at ht
    split at ht
    · rename_i he
      have := Nat.eq_of_beq_eq_true he
      subst this
      simp at ht
      subst ht
      simp only [Act.put]
      rw [Array.getElem?_setIfInBounds_self_of_lt (by omega)]
    · rename_i he
      have hne : d ≠ t := fun e => by subst e; simp at he
      simp only [Act.put]
      rw [Array.getElem?_setIfInBounds_ne hne]
      exact h3 t u ht
theorem Agr.same {F : Fr} {a : Act} (h : Agr n F a) {d : Nat} {v : Value} (hl : look F.env d = some v) : Agr n (F.put (some d) v) a := by
  obtain ⟨h1, h2, h3⟩ := h
  refine ⟨h1, h2, fun t u ht => ?_⟩
  simp only [Fr.put, look] at ht
  split at ht
  · rename_i he
    have := Nat.eq_of_beq_eq_true he
    subst this
    simp at ht
    subst ht
    exact h3 _ _ hl
  · exact h3 t u ht
theorem wanted_none {o : Oper} {y : Nat → Option Bool} (h : o.guard = none) : Region.wanted o y = true := by simp [Region.wanted, h]
theorem guard_yield {all : List Oper} {F : Fr} {a : Act} (h : Agr n F a) {j d : Nat} {v : Value} (hg : guardV all F j = some (d, v)) :
    look F.env d = some v ∧ yielded all.toArray a.tmps j = (match v with | .bool b => some b | _ => none) := by
  unfold guardV at hg
  split at hg; · simp at hg
  rename_i o ho
  split at hg; · simp at hg
  rename_i d' hd
  split at hg <;> simp at hg
  rename_i u hu
  obtain ⟨rfl, rfl⟩ := hg
  refine ⟨hu, ?_⟩
  have := h.2.2 _ _ hu
  unfold yielded
  have e1 : all.toArray[j]? = some o := by simpa using ho
  simp only [e1, Option.bind_some, hd, this]
  cases u <;> rfl
theorem exOps_sound (hT : TabOk P T) (all : List Oper) {Q : Exit → Act → World → Prop} : ∀ (l : List Oper) (F : Fr) (a : Act) (w : World) (k : Fr → World → Prop) (X : List PanicEntry → Fr → World → Prop),
    Agr n F a → exOps P T n all l F w k X → (∀ F a w, Agr n F a → k F w → Q .normal a w) → (∀ ch F a w, Agr n F a → X ch F w → Q (.panic ch) a w) → wpList P all.toArray Q l a w
  | [], F, a, w, k, X, ha, h, hk, _ => hk _ _ _ ha h
  | o :: r, F, a, w, k, X, ha, h, hk, hX => by
    have ih := exOps_sound hT all (Q := Q) r
    change stepOps P T n all o r (exOps P T n all r) F w k X at h
    unfold stepOps at h
    split at h; · exact h.elim
    rename_i hd
    split at h
    · rename_i hg
      unfold wpList
      rw [if_pos (wanted_none hg)]
      refine .inl ?_
      split at h
      · rename_i c e
        replace h := alo_some h
        obtain ⟨args, hargs, h⟩ := h
        split at h <;> try (exact h.elim)
        rename_i f hc
        replace h := obp_some h
        obtain ⟨vf, hf, h⟩ := h
        split at h <;> try (exact h.elim)
        rename_i fn first cap
        have hm := map_ev ha.ev hargs
        unfold Oper.wp execOp
        simp only [e, resolve, hc, ha.ev _ _ hf, Deferred.ofValue, hm, Sem.run_bind, Sem.run_pure, Result.andThen_ok]
        refine ih _ _ _ k X ?_ h hk hX
        refine Agr.put ?_ hd _
        exact ⟨ha.1, by simp [ha.2.1], ha.2.2⟩
      · exact exOp_sound hT ha.ev h (fun v w' q => ih _ _ _ k X (ha.put hd v) q hk hX) (fun ch w' q => hX _ _ _ _ ha q)
    · rename_i j want hg
      split at h; · exact h.elim
      rename_i d v hgv
      obtain ⟨hl, hy⟩ := guard_yield ha hgv
      unfold wpList
      split at h
      · rename_i b
        simp only at hy
        split at h
        · cases b
          · rw [if_neg (by simp [Region.wanted, hg, hy])]
            exact ih _ _ _ k X ((ha.same hl).put hd _) (h.2 rfl) hk hX
          · rw [if_pos (by simp [Region.wanted, hg, hy])]
            exact .inl (exOp_sound hT (ha.same hl).ev (h.1 rfl) (fun v w' q => ih _ _ _ k X ((ha.same hl).put hd v) q hk hX) (fun ch w' q => hX _ _ _ _ (ha.same hl) q))
        · cases b
          · rw [if_pos (by simp [Region.wanted, hg, hy])]
            exact .inl (exOp_sound hT (ha.same hl).ev (h.2 rfl) (fun v w' q => ih _ _ _ k X ((ha.same hl).put hd v) q hk hX) (fun ch w' q => hX _ _ _ _ (ha.same hl) q))
          · rw [if_neg (by simp [Region.wanted, hg, hy])]
            exact ih _ _ _ k X ((ha.same hl).put hd _) (h.1 rfl) hk hX
      · simp only at hy
        rw [if_neg (by simp [Region.wanted, hg, hy])]
        exact ih _ _ _ k X (ha.put hd _) h hk hX
      · exact h.elim
theorem exC_sound (hT : TabOk P T) : ∀ (c : Code) (F : Fr) (a : Act) (w : World) (K : Exit → Fr → World → Prop), Agr n F a → exC P T n c F w K → c.wp P (Lift n K) a w := by
  intro c
  induction c with
  | skip => exact fun F a w K ha h => wp_skip ⟨F, ha, h⟩
  | label l => exact fun F a w K ha h => wp_label ⟨F, ha, h⟩
  | region id ops draw =>
    intro F a w K ha h
    cases draw with
    | false =>
      refine wp_region_list ?_
      exact exOps_sound hT ops.toList ops.toList F a w _ _ ha h (fun F a w ha q => ⟨F, ha, q⟩) (fun ch F a w ha q => ⟨F, ha, q⟩)
    | true => exact h.out a ha
  | seq x y ihx ihy =>
    intro F a w K ha h
    refine wp_seq (wp_mono (ihx F a w _ ha h.out) fun e a' w' q => ?_)
    obtain ⟨F', ha', q⟩ := q
    cases e with
    | normal => exact ihy F' a' w' K ha' q
    | _ => exact ⟨F', ha', q⟩
  | cond c x y ihx ihy =>
    intro F a w K ha h
    obtain ⟨v, hv, h⟩ := obp_some h
    split at h <;> try (exact h.elim)
    rename_i b
    cases b
    · exact wp_cond_false (ha.ev _ _ hv) (ihy F a w K ha (h.2 rfl))
    · exact wp_cond_true (ha.ev _ _ hv) (ihx F a w K ha (h.1 rfl))
  | block id c ih =>
    intro F a w K ha h
    refine wp_block (wp_mono (ih F a w _ ha h) fun e a' w' q => ?_)
    obtain ⟨F', ha', q⟩ := q
    cases e with
    | exit i =>
      simp only at q
      by_cases hi : i = id
      · subst hi
        simp at q
        simp [Exit.inBlock]
        exact ⟨F', ha', q⟩
      · have : Nat.beq i id = false := by cases hb : Nat.beq i id with | false => rfl | true => exact absurd (Nat.eq_of_beq_eq_true hb) hi
        rw [this] at q
        simp [Exit.inBlock, hi]
        exact ⟨F', ha', q⟩
    | _ => exact ⟨F', ha', q⟩
  | loop c ih => exact fun F a w K ha h => h.out a ha
  | exit i => exact fun F a w K ha h => wp_exit ⟨F, ha, h⟩
  | goto l => exact fun F a w K ha h => wp_goto ⟨F, ha, h⟩
  | ret => exact fun F a w K ha h => wp_ret ⟨F, ha, h⟩
  | scope c ih =>
    intro F a w K ha h
    refine wp_scope_straight (wp_mono (ih F a w _ ha h) fun e a' w' q => ?_)
    obtain ⟨F', ha', q⟩ := q
    cases e with
    | goto l => exact q.elim
    | _ => exact ⟨F', ha', q⟩
  | rangeFunc => exact fun F a w K ha h => h.elim
  | refuse => exact fun F a w K ha h => h.elim

def argsEnv : List Value → Nat → Env
  | [], _ => []
  | v :: r, i => (i, v) :: argsEnv r (i + 1)
def retV (F : Fr) : List ResultVar → Option (List (Value ⊕ (Addr × TypeId)))
  | [] => some []
  | r :: rs => match retV F rs with
    | none => none
    | some l => match r with
      | .tmp t => match look F.env t with | some v => some (.inl v :: l) | none => none
      | .cell t ty => (match look F.env t with | none => none | some v => match v with | .pointer (some p) => some (.inr (p, ty) :: l) | _ => none)
def getR (T : List (Nat × TI)) (w : World) : List (Value ⊕ (Addr × TypeId)) → (List Value → Prop) → Prop
  | [], k => k []
  | .inl v :: r, k => getR T w r fun l => k (v :: l)
  | .inr (p, ty) :: r, k => match getT T ty with
    | none => False
    | some i => match aggD i.desc with
      | true => Ld w p i.size fun vs => getR T w r fun l => k (.agg vs.toArray :: l)
      | false => Ld1 w p fun v => getR T w r fun l => k (v :: l)
def oneV : List Value → Value
  | [v] => v
  | l => .tuple l.toArray
def retK (T : List (Nat × TI)) (rs : List ResultVar) (R : Value → World → Prop) (X : List PanicEntry → World → Prop) : Exit → Fr → World → Prop := fun e F w =>
  match e with
  | .normal | .ret => match F.ds with
    | [] => match retV F rs with
      | none => False
      | some l => getR T w l fun vs => R (oneV vs) w
    | _ => False
  | .panic ch => match F.ds with
    | [] => X ch w
    | _ => False
  | _ => False
theorem run_consM {α β : Type} {f : α → Sem β} {x : α} {xs : List α} {v : β} {vs : List β} {w : World} (h1 : (f x).run P w = Result.ok v w) (h2 : (xs.mapM f).run P w = Result.ok vs w) :
    ((x :: xs).mapM f).run P w = Result.ok (v :: vs) w := by
  simp only [List.mapM_cons, Sem.run_bind, h1, h2, Result.andThen_ok, Sem.run_pure]
theorem run_retV (hT : TabOk P T) (w : World) {F : Fr} {a : Act} (ha : Agr n F a) : ∀ (rs : List ResultVar) (l : List (Value ⊕ (Addr × TypeId))) (k : List Value → Prop), retV F rs = some l → getR T.ts w l k →
    ∃ vs, (rs.mapM (fun r => (match r with | .tmp t => pure (a.tmps.getD t undef) | .cell x t => do loadVar t (← asAddr (a.tmps.getD x undef)) : Sem Value))).run P w = Result.ok vs w ∧ k vs
  | [], l, k, h, hk => by simp [retV] at h; subst h; exact ⟨[], rfl, hk⟩
  | r :: rs, l, k, h, hk => by
    unfold retV at h
    split at h; · simp at h
    rename_i l' hl'
    have hget : ∀ t v, look F.env t = some v → a.tmps.getD t undef = v := fun t v hv => by simp [Array.getD_eq_getD_getElem?, ha.2.2 t v hv]
    split at h
    · split at h <;> simp at h
      rename_i t v hv
      subst h
      obtain ⟨vs, hvs, hk'⟩ := run_retV hT w ha rs l' _ hl' hk
      refine ⟨v :: vs, run_consM ?_ hvs, hk'⟩
      simp only [hget _ _ hv, Sem.run_pure]
    · split at h; · simp at h
      rename_i t ty v hv
      split at h <;> simp at h
      rename_i p
      subst h
      unfold getR at hk
      split at hk; · exact hk.elim
      rename_i i hi
      split at hk
      · rename_i hag
        obtain ⟨us, hl, hc, hk⟩ := hk
        obtain ⟨vs, hvs, hk'⟩ := run_retV hT w ha rs l' _ hl' hk
        refine ⟨.agg us.toArray :: vs, run_consM ?_ hvs, hk'⟩
        have hld := run_loadCells_list (P := P) w p us hc
        rw [hl] at hld
        simp only [Sem.run_bind, Sem.run_pure, Result.andThen_ok, hget _ _ hv, asAddr, loadVar, run_isAgg hT.1 w hi, hag, if_true, run_size hT.1 hi w, hld]
      · rename_i hag
        obtain ⟨u, hu, hk⟩ := hk
        obtain ⟨vs, hvs, hk'⟩ := run_retV hT w ha rs l' _ hl' hk
        refine ⟨u :: vs, run_consM ?_ hvs, hk'⟩
        simp only [Sem.run_bind, Sem.run_pure, Result.andThen_ok, hget _ _ hv, asAddr, loadVar, run_isAgg hT.1 w hi, hag, Bool.false_eq_true, if_false, run_load, hu]
theorem run_results (hT : TabOk P T) (w : World) {F : Fr} {a : Act} (ha : Agr n F a) {fn : Func} {l : List (Value ⊕ (Addr × TypeId))} {k : List Value → Prop} (h : retV F fn.results.toList = some l) (hk : getR T.ts w l k) :
    ∃ vs, (results fn a.tmps).run P w = Result.ok (oneV vs) w ∧ k vs := by
  obtain ⟨vs, hvs, hk⟩ := run_retV hT w ha _ _ _ h hk
  refine ⟨vs, ?_, hk⟩
  unfold results
  simp only [Array.mapM_eq_mapM_toList, Sem.run_bind, Sem.run_map]
  refine (congrArg (fun r : Result (List Value) => (r.andThen fun a w' => Result.ok a.toArray w').andThen fun a w' => Result.ok (if h : a.size = 1 then a[0] else Value.tuple a) w') hvs).trans ?_
  simp only [Result.andThen_ok]
  have : (if h : vs.toArray.size = 1 then vs.toArray[0] else Value.tuple vs.toArray) = oneV vs := by
    match vs with
    | [] => rfl
    | [v] => rfl
    | _ :: _ :: _ => simp [oneV]
  rw [this]
theorem look_args : ∀ (vs : List Value) (i t : Nat) (v : Value), look (argsEnv vs i) t = some v → i ≤ t ∧ vs[t - i]? = some v
  | [], i, t, v, h => by simp [argsEnv, look] at h
  | u :: r, i, t, v, h => by
    simp only [argsEnv, look] at h
    split at h
    · rename_i he
      have := Nat.eq_of_beq_eq_true he
      subst this
      simp at h
      subst h
      exact ⟨Nat.le_refl _, by simp⟩
    · obtain ⟨h1, h2⟩ := look_args r (i + 1) t v h
      refine ⟨by omega, ?_⟩
      rw [show t - i = (t - (i + 1)) + 1 by omega]
      simpa using h2
theorem Agr.enter {fn : Func} {args : List Value} (hn : Nat.ble args.length fn.ntmps = true) :
    Agr fn.ntmps ⟨argsEnv args 0, []⟩ { tmps := args.toArray ++ Array.replicate (fn.ntmps - args.toArray.size) undef, defers := [] } := by
  have hn := Nat.le_of_ble_eq_true hn
  refine ⟨by simp; omega, rfl, fun t v h => ?_⟩
  obtain ⟨_, h2⟩ := look_args args 0 t v h
  simp only [Nat.sub_zero] at h2
  have hlt : t < args.length := (List.getElem?_eq_some_iff.1 h2).1
  rw [Array.getElem?_append_left (by simpa using hlt)]
  simpa using h2
theorem calls_ex (hT : TabOk P T) {f : FuncId} {fn : Func} {c : Code} {args : List Value} {w : World} {R : Value → World → Prop} {X : List PanicEntry → World → Prop} {m : Nat} {rs : List ResultVar}
    (hf : P.funcs[f]? = some fn) (hb : fn.body = some c) (hm : fn.ntmps = m) (hrs : fn.results.toList = rs) (hn : Nat.ble args.length m = true)
    (h : exC P T m c ⟨argsEnv args 0, []⟩ w (retK T.ts rs R X)) : Cl P f args.toArray w R X := by
  subst hm hrs
  refine ⟨calls_of_wp hf hb (wp_mono (exC_sound hT c _ _ w _ (Agr.enter hn) h) fun e a' w' q => ?_)⟩
  obtain ⟨F', ha', q⟩ := q
  have key : (match F'.ds with
    | [] => match retV F' fn.results.toList with
      | none => False
      | some l => getR T.ts w' l fun vs => R (oneV vs) w'
    | _ => False) → bodyPost P fn (fun e w' => match e with | .returned v => R v w' | .panicked ch => X ch w' | .outgrown => False) .ret a' w' := fun q => by
    split at q <;> try (exact q.elim)
    rename_i hds
    split at q <;> try (exact q.elim)
    rename_i l hl
    obtain ⟨vs, hr, q⟩ := run_results hT w' ha' hl q
    exact ⟨ha'.2.1.trans hds, _, hr, q⟩
  cases e with
  | normal => exact key q
  | ret => exact key q
  | panic ch =>
    simp only [retK] at q
    split at q <;> try (exact q.elim)
    rename_i hds
    exact ⟨ha'.2.1.trans hds, q⟩
  | exit i => exact q.elim
  | goto l => exact q.elim
  | outgrown => exact q.elim
omit T n in
theorem wp_loop_st {c : Code} {Q : Exit → Act → World → Prop} {a : Act} {w : World} {σ : Type} (I : σ → Act → World → Prop) (μ : σ → World → Nat) (s0 : σ) (h₀ : I s0 a w)
    (round : ∀ s a w, I s a w → c.wp P (Exit.then (fun a' w' => ∃ s', I s' a' w' ∧ μ s' w' < μ s w) Q) a w) : (Code.loop c).wp P Q a w := by
  intro b k cs
  have key : ∀ m s a w, μ s w = m → I s a w →
      ∃ e a' w', Q e a' w' ∧ Arrives P (lone (b.at a (.code c :: .inLoop c :: k)) cs w) b k cs e a' w' := by
    intro m
    induction m using Nat.strongRecOn with
    | _ m ih =>
      intro s a w hm hI
      obtain ⟨e, a₁, w₁, hq, harr⟩ := round s a w hI b (.inLoop c :: k) cs
      cases e with
      | normal =>
        obtain ⟨s', hI₁, hlt⟩ := hq
        obtain ⟨e₂, a₂, w₂, hq₂, harr₂⟩ := ih (μ s' w₁) (hm ▸ hlt) s' a₁ w₁ rfl hI₁
        exact ⟨e₂, a₂, w₂, hq₂, .of_steps (Steps.trans harr (.one step_inLoop)) harr₂⟩
      | exit id => exact ⟨_, a₁, w₁, hq, .pass (x := .inLoop c) rfl (fun _ _ => .inl (by simp)) harr⟩
      | goto l => exact ⟨_, a₁, w₁, hq, .pass (x := .inLoop c) rfl (fun _ _ => .inl (by simp)) harr⟩
      | ret => exact ⟨_, a₁, w₁, hq, .pass (x := .inLoop c) rfl (fun _ _ => .inl (by simp)) harr⟩
      | panic ch => exact ⟨_, a₁, w₁, hq, .pass (x := .inLoop c) rfl (fun _ _ => .inl (by simp)) harr⟩
      | outgrown => exact ⟨_, a₁, w₁, hq, .pass (x := .inLoop c) rfl (fun _ _ => .inl (by simp)) harr⟩
  obtain ⟨e, a', w', hq, harr⟩ := key _ s0 a w rfl h₀
  exact ⟨e, a', w', hq, .of_steps (.one step_loop) harr⟩
def Sub : Env → Fr → Prop
  | [], _ => True
  | (t, v) :: r, F => look F.env t = some v ∧ Sub r F
omit P T n in
theorem Sub.look {F : Fr} : ∀ {e : Env}, Sub e F → ∀ t v, Sh.look e t = some v → Sh.look F.env t = some v
  | [], _, t, v, h => by simp [Sh.look] at h
  | (d, u) :: r, hs, t, v, h => by
    simp only [Sh.look] at h
    split at h
    · rename_i he
      have := Nat.eq_of_beq_eq_true he
      subst this
      simp at h
      subst h
      exact hs.1
    · exact Sub.look hs.2 t v h
theorem Lp.go (hT : TabOk P T) {c : Code} {F : Fr} {w : World} {K : Exit → Fr → World → Prop} {σ : Type} (mk : σ → Env) (I : σ → World → Prop) (μ : σ → World → Nat)
    (s0 : σ) (h0 : Sub (mk s0) F) (hI : I s0 w)
    (round : ∀ s w, I s w → exC P T n c ⟨mk s, F.ds⟩ w fun e F' w' => match e with
      | .normal => ∃ s', Sub (mk s') F' ∧ F.ds = F'.ds ∧ I s' w' ∧ μ s' w' < μ s w
      | e => K e F' w') : Lp P n c F w K := by
  refine ⟨fun a ha => ?_⟩
  refine wp_loop_st (fun s a w => Agr n ⟨mk s, F.ds⟩ a ∧ I s w) μ s0 ⟨⟨ha.1, ha.2.1, fun t v h => ha.2.2 t v (h0.look t v h)⟩, hI⟩ fun s a w ⟨hA, hI⟩ => ?_
  refine wp_mono (exC_sound hT c _ _ w _ hA (round s w hI)) fun e a' w' q => ?_
  obtain ⟨F', ha', q⟩ := q
  cases e with
  | normal =>
    obtain ⟨s', h1, h2, h3, h4⟩ := q
    exact ⟨s', ⟨⟨ha'.1, ha'.2.1.trans h2.symm, fun t v h => ha'.2.2 t v (h1.look t v h)⟩, h3⟩, h4⟩
  | _ => exact ⟨F', ha', q⟩
theorem Lp.g0 (hT : TabOk P T) {c : Code} {F : Fr} {w : World} {K : Exit → Fr → World → Prop} {σ : Type} (mk : σ → Env) (I : σ → World → Prop) (μ : σ → World → Nat)
    (s0 : σ) (hds : F.ds = []) (h0 : Sub (mk s0) F) (hI : I s0 w)
    (round : ∀ s w, I s w → exC P T n c ⟨mk s, []⟩ w fun e F' w' => match e with
      | .normal => ∃ s', Sub (mk s') F' ∧ F'.ds = [] ∧ I s' w' ∧ μ s' w' < μ s w
      | e => K e F' w') : Lp P n c F w K := by
  refine ⟨fun a ha => ?_⟩
  refine wp_loop_st (fun s a w => Agr n ⟨mk s, []⟩ a ∧ I s w) μ s0 ⟨⟨ha.1, ha.2.1.trans hds, fun t v h => ha.2.2 t v (h0.look t v h)⟩, hI⟩ fun s a w ⟨hA, hI⟩ => ?_
  refine wp_mono (exC_sound hT c _ _ w _ hA (round s w hI)) fun e a' w' q => ?_
  obtain ⟨F', ha', q⟩ := q
  cases e with
  | normal =>
    obtain ⟨s', h1, h2, h3, h4⟩ := q
    exact ⟨s', ⟨⟨ha'.1, ha'.2.1.trans h2, fun t v h => ha'.2.2 t v (h1.look t v h)⟩, h3⟩, h4⟩
  | _ => exact ⟨F', ha', q⟩
/-- what follows is proved once: of the slots, those of 'mk' are known there -/
theorem exC_cut (hT : TabOk P T) {y : Code} {F : Fr} {w : World} {K : Exit → Fr → World → Prop} {e : Env} (h : Sub e F) (hy : exC P T n y ⟨e, F.ds⟩ w K) : ∀ a, Agr n F a → y.wp P (Lift n K) a w :=
  fun a ha => exC_sound hT y ⟨e, F.ds⟩ a w K ⟨ha.1, ha.2.1, fun t v hh => ha.2.2 t v (h.look t v hh)⟩ hy
end
end Go.Sh
namespace Go.Sh
open Go.RowKit

/-! ### branches -/
section
variable {X Y : Prop}
theorem Gd.t (h : X) : Gd true X Y := ⟨fun _ => h, fun e => by cases e⟩
theorem Gd.f (h : Y) : Gd false X Y := ⟨fun e => (by cases e), fun _ => h⟩
theorem Gd.dec {p : Prop} [Decidable p] (h1 : p → X) (h2 : ¬ p → Y) : Gd (decide p) X Y := ⟨fun e => h1 (of_decide_eq_true e), fun e => h2 (of_decide_eq_false e)⟩
theorem Gd.beq {α : Type} [BEq α] [LawfulBEq α] {a b : α} (h1 : a = b → X) (h2 : a ≠ b → Y) : Gd (a == b) X Y := ⟨fun e => h1 (eq_of_beq e), fun e => h2 (fun h => by subst h; simp at e)⟩
theorem Gd.bne {α : Type} [BEq α] [LawfulBEq α] {a b : α} (h1 : a ≠ b → X) (h2 : a = b → Y) : Gd (a != b) X Y :=
  ⟨fun e => h1 (bne_iff_ne.1 e), fun e => h2 (by simpa [bne] using e)⟩
theorem Gd.not {b : Bool} (h : Gd b Y X) : Gd (!b) X Y := ⟨fun e => h.2 (by simpa using e), fun e => h.1 (by simpa using e)⟩
theorem Gd.var {b : Bool} (h1 : b = true → X) (h2 : b = false → Y) : Gd b X Y := ⟨h1, h2⟩
end

theorem Sq.mk {x : (Exit → Fr → World → Prop) → Prop} {y : Fr → World → Prop} {K : Exit → Fr → World → Prop}
    (h : x fun e F w => match e with | .normal => y F w | e => K e F w) : Sq x y K := ⟨h⟩

theorem at_int {F : Fr} {t : Nat} {k : IntKind} {n m : Int} (h : look F.env t = some (.int k n)) (e : n = m) : look F.env t = some (.int k m) := e ▸ h
theorem at_val {F : Fr} {t : Nat} {u v : Value} (h : look F.env t = some u) (e : u = v) : look F.env t = some v := e ▸ h

theorem b_eq {a b : Bool} (h : a = b) : Value.bool a = .bool b := by rw [h]
theorem i_eq {k : IntKind} {a b : Int} (h : a = b) : Value.int k a = .int k b := by rw [h]

/-! ### addresses, blocks -/
theorem block_add (a : Addr) (n : Nat) : (a.add n).block = a.block := by unfold Addr.add; split <;> rfl
theorem add_add (a : Addr) (i j : Nat) : (a.add i).add j = a.add (i + j) := by
  unfold Addr.add
  by_cases hi : i = 0 <;> by_cases hj : j = 0 <;> simp [hi, hj, Nat.add_assoc]
theorem pAdd_add (a : Addr) (i j : Nat) : pAdd (a.add i) j = a.add (i + j) := by rw [pAdd_eq, add_add]
theorem block_pAdd (a : Addr) (n : Nat) : (pAdd a n).block = a.block := by rw [pAdd_eq, block_add]

def Blk (w : World) (b : Nat) (t : TypeId) (vs : List Value) : Prop := w.heap[b]? = some (.cells vs.toArray t (0, 0))
def Ext (w w' : World) : Prop := Below w.heap.size w w'
section
variable {w w' w'' : World} {b : Nat} {t : TypeId} {vs : List Value}
theorem Ext.refl (w : World) : Ext w w := Below.refl _ _
theorem Ext.trans (h : Ext w w') (k : Ext w' w'') : Ext w w'' := Below.trans h (Below.mono k h.size)
theorem Ext.below {B : Nat} {w0 : World} (h : Below B w0 w) (k : Ext w w') (hB : B ≤ w.heap.size) : Below B w0 w' := h.trans (Below.mono k hB)
theorem Ext.size (h : Ext w w') : w.heap.size ≤ w'.heap.size := Below.size h
theorem Blk.lt (h : Blk w b t vs) : b < w.heap.size := by
  unfold Blk at h
  exact (Array.getElem?_eq_some_iff.1 h).1
theorem Blk.ext (h : Blk w b t vs) (e : Ext w w') : Blk w' b t vs := (Below.block e b h.lt).trans h
theorem Blk.from (e : Ext w w') (h : Blk w b t vs) : Blk w' b t vs := h.ext e
theorem Ext.from (e : Ext w' w'') (h : Ext w w') : Ext w w'' := h.trans e
theorem Blk.below {B : Nat} (h : Blk w b t vs) (e : Below B w w') (hb : b < B) : Blk w' b t vs := (Below.block e b hb).trans h
theorem Blk.cell (h : Blk w b t vs) (i : Nat) : w.cell? ⟨b, i, none⟩ = vs[i]? := by
  unfold Blk at h
  simp [World.cell?, h]
theorem Blk.frozen (h : Blk w b t vs) (p : Addr) (hp : p.block = b) : w.frozen? p = false := by
  unfold Blk at h
  simp [World.frozen?, hp, h]
theorem Ext.alloc (w : World) (o : Obj) : Ext w (w.alloc o) := Below.alloc (Below.refl _ w) (Nat.le_refl _) o
theorem Al.mk {cs : List Value} {k : Nat → World → Prop} (h : ∀ p w', w.heap.size = p → Blk w' p t cs → Ext w w' → w'.heap.size = p + 1 → k p w') : Al cs t w k := by
  refine ⟨h _ _ rfl ?_ (Ext.alloc w _) ?_⟩
  · unfold Blk
    show (w.heap.push _)[w.heap.size]? = _
    simp
  · show (w.heap.push _).size = _
    simp
theorem add_lit (b o n : Nat) : (⟨b, o, none⟩ : Addr).add n = ⟨b, o + n, none⟩ := by unfold Addr.add; split <;> simp_all
theorem Ld.blk {o m : Nat} {k : List Value → Prop} (h : Blk w b t vs) (hm : ((vs.drop o).take m).length = m) (hk : k ((vs.drop o).take m)) : Ld w ⟨b, o, none⟩ m k := by
  refine ⟨_, hm, fun i v hv => ?_, hk⟩
  rw [add_lit, h.cell]
  have : i < m := by have := (List.getElem?_eq_some_iff.1 hv).1; omega
  rw [List.getElem?_take_of_lt this, List.getElem?_drop] at hv
  exact hv
theorem Ld1.blk {o : Nat} {v : Value} {k : Value → Prop} (h : Blk w b t vs) (hv : vs[o]? = some v) (hk : k v) : Ld1 w ⟨b, o, none⟩ k := ⟨v, (h.cell o).trans hv, hk⟩

/-! ### stores into one known block -/
def putL (cs : List Value) (o : Nat) (vs : List Value) : List Value := cs.take o ++ vs ++ cs.drop (o + vs.length)
/-- block b alone may have changed -/
structure Upd (b : Nat) (w w' : World) : Prop where
  os : w'.os = w.os
  tape : w'.tape = w.tape
  output : w'.output = w.output
  size : w'.heap.size = w.heap.size
  block : ∀ k, k ≠ b → w'.heap[k]? = w.heap[k]?
theorem setCells_heap (p : Addr) : ∀ (vs : List Value) (i : Nat) (w : World), Upd p.block w (setCells w p vs i)
  | [], _, w => ⟨rfl, rfl, rfl, rfl, fun _ _ => rfl⟩
  | v :: r, i, w => by
    have ih := setCells_heap p r (i + 1) (w.setCell (p.add i) v)
    refine ⟨ih.os, ih.tape, ih.output, ih.size.trans (by simp [World.setCell]), fun k hk => (ih.block k hk).trans (Below.heap_setCell _ _ _ _ (by rw [block_add]; exact hk))⟩
theorem setCells_blk {b o : Nat} {t : TypeId} : ∀ (vs cs : List Value) (i : Nat) (w : World), Blk w b t cs → o + i + vs.length ≤ cs.length →
    Blk (setCells w ⟨b, o, none⟩ vs i) b t (putL cs (o + i) vs)
  | [], cs, i, w, h, _ => by simpa [setCells, putL] using h
  | v :: r, cs, i, w, h, hl => by
    have h1 : Blk (w.setCell ((⟨b, o, none⟩ : Addr).add i) v) b t (cs.set (o + i) v) := by
      rw [add_lit]
      unfold Blk at h ⊢
      simp [World.setCell, Array.getElem?_modify, h]
    have ih := setCells_blk (o := o) r (cs.set (o + i) v) (i + 1) _ h1 (by simp at hl ⊢; omega)
    simp only [setCells]
    have e : putL (cs.set (o + i) v) (o + (i + 1)) r = putL cs (o + i) (v :: r) := by
      simp only [List.length_cons] at hl
      unfold putL
      have e1 : (cs.set (o + i) v).take (o + (i + 1)) = cs.take (o + i) ++ [v] := by
        rw [show o + (i + 1) = o + i + 1 by omega, List.take_succ_eq_append_getElem (by simp; omega), List.take_set_of_le (Nat.le_refl _)]
        simp
      have e2 : (cs.set (o + i) v).drop (o + (i + 1) + r.length) = cs.drop (o + (i + 1) + r.length) := List.drop_set_of_lt (by omega)
      rw [e1, e2, show o + i + (v :: r).length = o + (i + 1) + r.length by simp; omega]
      simp
    rw [e] at ih
    exact ih
theorem St.upd {b o : Nat} {t : TypeId} {cs vs : List Value} {w : World} {k : World → Prop} (h : Blk w b t cs) (hl : Nat.ble (o + vs.length) cs.length = true) (h1 : vs.all Value.oneCell' = true)
    (hk : ∀ w', Upd b w w' → Blk w' b t (putL cs o vs) → k w') : St w ⟨b, o, none⟩ vs k := by
  have hl := Nat.le_of_ble_eq_true hl
  refine ⟨List.all_eq_true.1 h1, fun i hi => ⟨?_, h.frozen _ (by rw [block_add])⟩, hk _ (setCells_heap ⟨b, o, none⟩ vs 0 w) (setCells_blk (o := o) vs cs 0 w h (by omega))⟩
  rw [add_lit, h.cell]
  exact ⟨cs[o + i]'(by omega), List.getElem?_eq_getElem (by omega)⟩
theorem Ext.upd {w0 w w' : World} {b : Nat} (e : Ext w0 w) (u : Upd b w w') (hb : w0.heap.size ≤ b) : Ext w0 w' :=
  Below.trans e ⟨u.os, u.tape, u.output, by rw [u.size]; exact Nat.le_refl _, fun k hk => u.block k (by omega)⟩
theorem Blk.upd {w w' : World} {b b' : Nat} {t : TypeId} {cs : List Value} (h : Blk w b' t cs) (u : Upd b w w') (hne : b' ≠ b) : Blk w' b' t cs := (u.block b' hne).trans h
theorem St.new {b o : Nat} {t : TypeId} {cs vs : List Value} {w0 w : World} {k : World → Prop} (e : Ext w0 w) (hp : w0.heap.size = b) (h : Blk w b t cs) (hl : Nat.ble (o + vs.length) cs.length = true)
    (h1 : vs.all Value.oneCell' = true) (hk : ∀ w', Ext w0 w' → Blk w' b t (putL cs o vs) → w'.heap.size = w.heap.size → k w') : St w ⟨b, o, none⟩ vs k :=
  St.upd h hl h1 fun w' u hb => hk w' (e.upd u (by omega)) hb u.size

/-! ### slices that read as lists -/
structure Rd {α : Type} (R : World → α → List Value → Prop) (sz : Nat) (w : World) (B : Nat) (A : Option Addr) (l : List α) : Prop where
  some : l ≠ [] → A ≠ none ∧ (gA A).block < B
  at_ : ∀ i x, l[i]? = Option.some x → ∃ vs, vs.length = sz ∧ R w x vs ∧ ∀ j v, vs[j]? = Option.some v → w.cell? ((gA A).add (i * sz + j)) = Option.some v
def Fl {α : Type} (enc : α → List Value) : World → α → List Value → Prop := fun _ x vs => vs = enc x
variable {α : Type} {R : World → α → List Value → Prop} {sz B : Nat} {A : Option Addr} {l : List α}
theorem Ix.rd {i : Int} {k : Addr → Prop} (h : Rd R sz w B A l) (h0 : 0 ≤ i) (h1 : i < (l.length : Int)) (hk : k ((gA A).add (i.toNat * sz))) : Ix A l.length i sz k :=
  ⟨(h.some (fun e => by subst e; simp at h1; omega)).1, h0, h1, hk⟩
theorem Ix.rdN {i : Nat} {k : Addr → Prop} (h : Rd R sz w B A l) (h1 : i < l.length) (hk : k ((gA A).add (i * sz))) : Ix A l.length (i : Int) sz k :=
  Ix.rd h (by omega) (by omega) (by simpa using hk)
theorem Ld.rd {enc : α → List Value} {i : Nat} {x : α} {k : List Value → Prop} (h : Rd (Fl enc) sz w B A l) (hx : l[i]? = some x) (hk : k (enc x)) : Ld w ((gA A).add (i * sz)) sz k := by
  obtain ⟨vs, h1, h2, h3⟩ := h.at_ i x hx
  unfold Fl at h2
  subst h2
  exact ⟨enc x, h1, fun j v hv => by rw [add_add]; exact h3 j v hv, hk⟩
theorem Ld1.rd {enc : α → List Value} {i : Nat} {x : α} {v : Value} {k : Value → Prop} (h : Rd (Fl enc) 1 w B A l) (hx : l[i]? = some x) (hv : (enc x)[0]? = some v) (hk : k v) : Ld1 w ((gA A).add (i * 1)) k := by
  obtain ⟨vs, h1, h2, h3⟩ := h.at_ i x hx
  unfold Fl at h2
  subst h2
  exact ⟨v, by simpa using h3 0 v hv, hk⟩
theorem Ld1.rdF {enc : α → List Value} {i o : Nat} {x : α} {v : Value} {k : Value → Prop} (h : Rd (Fl enc) sz w B A l) (hx : l[i]? = some x) (hv : (enc x)[o]? = some v) (hk : k v) : Ld1 w (pAdd ((gA A).add (i * sz)) o) k := by
  obtain ⟨vs, h1, h2, h3⟩ := h.at_ i x hx
  unfold Fl at h2
  subst h2
  exact ⟨v, by rw [pAdd_add]; exact h3 o v hv, hk⟩
theorem Rd.mono' {R' : World → α → List Value → Prop} (h : Rd R sz w B A l) (e : Below B w w') (hR : ∀ x vs, R w x vs → R' w' x vs) : Rd R' sz w' B A l := by
  refine ⟨h.some, fun i x hx => ?_⟩
  obtain ⟨vs, h1, h2, h3⟩ := h.at_ i x hx
  refine ⟨vs, h1, hR x vs h2, fun j v hv => ?_⟩
  have hb := (h.some (fun e => by subst e; simp at hx)).2
  rw [Below.cell e (by rw [block_add]; exact hb)]
  exact h3 j v hv
theorem Rd.below {enc : α → List Value} (h : Rd (Fl enc) sz w B A l) (e : Below B w w') : Rd (Fl enc) sz w' B A l := h.mono' e fun _ _ q => q
theorem Rd.more {B' : Nat} (h : Rd R sz w B A l) (hB : B ≤ B') : Rd R sz w B' A l :=
  ⟨fun hn => by have := h.some hn; exact ⟨this.1, by omega⟩, h.at_⟩
theorem Rd.ext {enc : α → List Value} (h : Rd (Fl enc) sz w B A l) (e : Ext w w') (hB : B ≤ w.heap.size) : Rd (Fl enc) sz w' B A l := h.below (Below.mono e hB)
theorem Rd.nil : Rd R sz w B A ([] : List α) := ⟨fun h => absurd rfl h, fun i x h => by simp at h⟩
end

section
variable {w w' : World} {α : Type} {enc : α → List Value} {sz : Nat} {A : Option Addr} {l : List α}
def RdS (enc : α → List Value) (sz : Nat) (w : World) (A : Option Addr) (l : List α) : Prop := Rd (Fl enc) sz w w.heap.size A l
theorem RdS.nil : RdS enc sz w A ([] : List α) := Rd.nil
theorem RdS.from (e : Ext w w') (h : RdS enc sz w A l) : RdS enc sz w' A l := (Rd.ext h e (Nat.le_refl _)).more e.size
theorem Ix.rs {n : Int} {i : Nat} {k : Addr → Prop} (h : RdS enc sz w A l) (e : n = (i : Int)) (h1 : i < l.length) (hk : k ((gA A).add (i * sz))) : Ix A l.length n sz k := by
  subst e; exact Ix.rdN h h1 hk
theorem Ix.arr {len : Nat} {n : Int} {i : Nat} {k : Addr → Prop} (h : RdS enc sz w A l) (hl : l.length = len) (e : n = (i : Int)) (h1 : i < l.length) (hk : k ((gA A).add (i * sz))) : Ix A len n sz k := by
  subst e hl; exact Ix.rdN h h1 hk
theorem Ld.rs {i : Nat} {x : α} {k : List Value → Prop} (h : RdS enc sz w A l) (hx : l[i]? = some x) (hk : k (enc x)) : Ld w ((gA A).add (i * sz)) sz k := Ld.rd h hx hk
theorem Ld1.rs {i : Nat} {x : α} {v : Value} {k : Value → Prop} (h : RdS enc 1 w A l) (hx : l[i]? = some x) (hv : (enc x)[0]? = some v) (hk : k v) : Ld1 w ((gA A).add (i * 1)) k := Ld1.rd h hx hv hk
theorem Ld1.rsF {i o : Nat} {x : α} {v : Value} {k : Value → Prop} (h : RdS enc sz w A l) (hx : l[i]? = some x) (hv : (enc x)[o]? = some v) (hk : k v) : Ld1 w (pAdd ((gA A).add (i * sz)) o) k := Ld1.rdF h hx hv hk
end

/-! ### calls -/
theorem Cl.mk {P : Program} {f : Nat} {args : Array Value} {w : World} {R k : Value → World → Prop} {X : List PanicEntry → World → Prop} (h : Cl P f args w R (fun _ _ => False)) (hk : ∀ v w', R v w' → k v w') : Cl P f args w k X :=
  ⟨Calls.mono h.out fun e w' q => by
    cases e with
    | returned v => exact hk v w' q
    | panicked ch => exact q.elim
    | outgrown => exact q.elim⟩
theorem Cl.mkX {P : Program} {f : Nat} {args : Array Value} {w : World} {R k : Value → World → Prop} {X X' : List PanicEntry → World → Prop} (h : Cl P f args w R X') (hk : ∀ v w', R v w' → k v w') (hX : ∀ ch w', X' ch w' → X ch w') : Cl P f args w k X :=
  ⟨Calls.mono h.out fun e w' q => by
    cases e with
    | returned v => exact hk v w' q
    | panicked ch => exact hX ch w' q
    | outgrown => exact q.elim⟩

/-! ### numbers -/
theorem w64 {n m : Int} (h : n = m) (lo : -9223372036854775808 ≤ m) (hi : m ≤ 9223372036854775807) : IntKind.i64.wrap n = m := by
  subst h
  exact IntWalk.i64_in n ⟨lo, hi⟩
end Go.Sh
namespace Go.Sh
open Go.RowKit

inductive QLd (W : World → Prop) (p : Addr) (m : Nat) (k : List Value → Prop) : Prop where
  | intro (vs : List Value) (h1 : ∀ w', W w' → vs.length = m ∧ ∀ i v, vs[i]? = some v → w'.cell? (p.add i) = some v) (h2 : k vs)
inductive QLd1 (W : World → Prop) (p : Addr) (k : Value → Prop) : Prop where
  | intro (v : Value) (h1 : ∀ w', W w' → w'.cell? p = some v) (h2 : k v)
inductive QSm (P : Program) (s : Sem Value) (W : World → Prop) (k : Value → Prop) : Prop where
  | intro (v : Value) (h1 : ∀ w', W w' → s.run P w' = .ok v w') (h2 : k v)
inductive QCl (P : Program) (f : Nat) (args : Array Value) (W : World → Prop) (Rl : World → World → Prop) (k : Value → Prop) : Prop where
  | intro (v : Value) (h1 : ∀ w', W w' → Cl P f args w' (fun u w'' => u = v ∧ Rl w' w'') (fun _ _ => False)) (h2 : k v)
section
variable (P : Program) (T : Tab) (n : Nat) (W : World → Prop) (Rl : World → World → Prop)
def quOp (ev : Operand → Option Value) (o : Oper) (k : Value → Prop) : Prop :=
  match pu T.ts ev o.op with
  | some v => k v
  | none => match o.op with
    | .pick c a b => obp (ev c) fun vc => obp (ev a) fun va => obp (ev b) fun vb => match vc with | .bool t => Gd t (k va) (k vb) | _ => False
    | .load t a => obp (ev a) fun va => match va with
      | .pointer (some p) => match getT T.ts t with
        | none => False
        | some i => match aggD i.desc with
          | true => QLd W p i.size fun vs => k (.agg vs.toArray)
          | false => QLd1 W p fun v => k v
      | _ => False
    | .indexAddr t x i => obp (ev x) fun vx => obp (ev i) fun vi => match vi with
      | .int _ m => match getT T.ts t with
        | none => False
        | some ti => match ti.desc with
          | .slice e => match getT T.ts e with
            | none => False
            | some ei => match vx with | .slice A len _ => Ix A len m ei.size fun ad => k (.pointer (some ad)) | _ => False
          | .array len e => match getT T.ts e with
            | none => False
            | some ei => match vx with | .pointer (some p) => Ix (some p) len m ei.size fun ad => k (.pointer (some ad)) | _ => False
          | _ => False
      | _ => False
    | .index t x i => obp (ev x) fun vx => obp (ev i) fun vi => QSm P (Instr.index t vx vi) W k
    | .slice t x lo hi mx => obp (ev x) fun vx => obo (optL ev lo) fun a => obo (optL ev hi) fun b => obo (optL ev mx) fun c => QSm P (Instr.sliceAt t vx a b c) W k
    | .binOp b t x y _ => obp (ev x) fun vx => obp (ev y) fun vy => QSm P (do eqGuard b t x y vx vy; binOp b t vx vy) W k
    | .lookup t x i ok => obp (ev x) fun vx => obp (ev i) fun vi => QSm P (Instr.lookup t vx vi ok) W k
    | .typeAssert x t u ok => obp (ev x) fun vx => QSm P (Instr.typeAssert vx t u ok) W k
    | .call c => alo (allSome (c.args.toList.map ev)) fun args => match c.callee with
      | .value f => obp (ev f) fun vf => match vf with
        | .func fn first cap => match fn with
          | .func g => match memN T.fs g with
            | true => QCl P g (cat (first.toList ++ args) cap.toList).toArray W Rl k
            | false => False
          | _ => False
        | _ => False
      | .builtin b => match b with
        | .len => QSm P (Builtin.len_ c.argTypes o.type args.toArray) W k
        | .cap => QSm P (Builtin.cap_ c.argTypes o.type args.toArray) W k
        | _ => False
      | _ => False
    | _ => False
def tmpsOf (o : Oper) : List Nat := o.op.operands.toList.filterMap fun x => match x with | .tmp t => some t | _ => none
def evR (o : Oper) (F : Fr) : Operand → Option Value := fun x => match x with
  | .tmp t => match memN (tmpsOf o) t with | true => look F.env t | false => none
  | .const v => some v
  | .global g => some (.pointer (some ⟨g, 0, none⟩))
  | .func f => some (.func (.func f) #[] #[])
def stepQu (all : List Oper) (o : Oper) (_r : List Oper) (ih : Fr → (Fr → Prop) → Prop) (F : Fr) (k : Fr → Prop) : Prop :=
    match dstOk n o.dst with
    | false => False
    | true => match o.guard with
      | none => quOp P T W Rl (evR o F) o (fun v => ih (F.put o.dst v) k)
      | some (j, want) => match guardV all F j with
        | none => False
        | some (d, v) => match v with
          | .bool b => match want with
            | true => Gd b (quOp P T W Rl (evR o (F.put (some d) (.bool true))) o (fun v => ih ((F.put (some d) (.bool true)).put o.dst v) k)) (ih ((F.put (some d) (.bool false)).put o.dst undef) k)
            | false => Gd b (ih ((F.put (some d) (.bool true)).put o.dst undef) k) (quOp P T W Rl (evR o (F.put (some d) (.bool false))) o (fun v => ih ((F.put (some d) (.bool false)).put o.dst v) k))
          | .tuple _ => ih (F.put o.dst undef) k
          | _ => False
def quOps (all : List Oper) (l : List Oper) : Fr → (Fr → Prop) → Prop :=
  List.rec (motive := fun _ => Fr → (Fr → Prop) → Prop) (fun F k => k F) (stepQu P T n W Rl all) l
variable {P T n W Rl}
section sound
variable (hT : TabOk P T)
def RunQ (P : Program) (W : World → Prop) (Rl : World → World → Prop) (ev : Operand → Option Value) (o : Oper) (v : Value) : Prop :=
  ∀ a : Act, (∀ x u, ev x = some u → a.eval x = u) → ∀ w, W w → (execOp a.eval o).run P w = Result.ok (.value v) w ∨
    ∃ f args, (execOp a.eval o).run P w = Result.ok (.enter f args) w ∧ Cl P f args w (fun u w'' => u = v ∧ Rl w w'') (fun _ _ => False)
theorem runq_val {ev : Operand → Option Value} {o : Oper} {v : Value} {k : Value → Prop} (hr : ∀ a : Act, (∀ x u, ev x = some u → a.eval x = u) → ∀ w, W w → (execOp a.eval o).run P w = Result.ok (.value v) w) (h : k v) : ∃ v, k v ∧ RunQ P W Rl ev o v :=
  ⟨v, h, fun a hev w hw => .inl (hr a hev w hw)⟩
theorem runq_sm {ev : Operand → Option Value} {o : Oper} {s : Sem Value} {k : Value → Prop} (hr : ∀ a : Act, (∀ x u, ev x = some u → a.eval x = u) → execOp a.eval o = (do pure (.value (← s)))) (h : QSm P s W k) : ∃ v, k v ∧ RunQ P W Rl ev o v := by
  obtain ⟨v, h1, h2⟩ := h
  exact ⟨v, h2, fun a hev w hw => .inl (by rw [hr a hev]; simp [h1 w hw])⟩
include hT in
theorem quOp_run {ev : Operand → Option Value} {o : Oper} {k : Value → Prop} (h : quOp P T W Rl ev o k) : ∃ v, k v ∧ RunQ P W Rl ev o v := by
  unfold quOp at h
  split at h
  · rename_i v hv
    exact runq_val (fun a hev w _ => pu_sound hT.1 w hev hv) h
  · rename_i hnone; clear hnone
    split at h
    · -- pick
      rename_i c x y e
      replace h := obp_some h; obtain ⟨vc, hc, h⟩ := h
      replace h := obp_some h; obtain ⟨vx, hx, h⟩ := h
      replace h := obp_some h; obtain ⟨vy, hy, h⟩ := h
      split at h <;> try (exact h.elim)
      rename_i t
      cases t
      · exact runq_val (v := vy) (fun a hev w _ => by unfold execOp; simp [e, hev _ _ hc, hev _ _ hx, hev _ _ hy, asBool]) (h.2 rfl)
      · exact runq_val (v := vx) (fun a hev w _ => by unfold execOp; simp [e, hev _ _ hc, hev _ _ hx, hev _ _ hy, asBool]) (h.1 rfl)
    · -- load
      rename_i t x e
      replace h := obp_some h; obtain ⟨v, hx, h⟩ := h
      split at h <;> try (exact h.elim)
      rename_i p
      split at h <;> try (exact h.elim)
      rename_i i hi
      split at h
      · rename_i hag
        obtain ⟨vs, hc, h⟩ := h
        refine runq_val (v := .agg vs.toArray) (fun a hev w hw => ?_) h
        have := run_loadCells_list (P := P) w p vs (hc w hw).2
        rw [(hc w hw).1] at this
        unfold execOp
        simp [e, hev _ _ hx, Instr.loadAt, Instr.sureAddr, loadVar, run_isAgg hT.1 w hi, hag, run_size hT.1 hi, this]
      · rename_i hag
        obtain ⟨u, hu, h⟩ := h
        refine runq_val (v := u) (fun a hev w hw => ?_) h
        unfold execOp
        simp [e, hev _ _ hx, Instr.loadAt, Instr.sureAddr, loadVar, run_isAgg hT.1 w hi, hag, hu w hw]
    · -- indexAddr
      rename_i t x y e
      replace h := obp_some h; obtain ⟨v, hx, h⟩ := h
      replace h := obp_some h; obtain ⟨u, hy, h⟩ := h
      split at h <;> try (exact h.elim)
      rename_i kk n
      split at h <;> try (exact h.elim)
      rename_i ti hti
      split at h
      · rename_i el hd
        split at h <;> try (exact h.elim)
        rename_i ei hei
        split at h <;> try (exact h.elim)
        rename_i A len cap
        obtain ⟨hn, h0, h1, h⟩ := h
        obtain ⟨ad, rfl⟩ : ∃ ad, A = some ad := Option.ne_none_iff_exists'.1 hn
        simp only [gA] at h
        refine runq_val (v := .pointer (some (ad.add (n.toNat * ei.size)))) (fun a hev w hw => ?_) h
        unfold execOp
        simp [e, hev _ _ hx, hev _ _ hy, Instr.indexAt, asIntOf, run_und hT.1 hti, hd, h0, h1, run_size hT.1 hei]
      · rename_i len el hd
        split at h <;> try (exact h.elim)
        rename_i ei hei
        split at h <;> try (exact h.elim)
        rename_i p
        obtain ⟨_, h0, h1, h⟩ := h
        simp only [gA] at h
        refine runq_val (v := .pointer (some (p.add (n.toNat * ei.size)))) (fun a hev w hw => ?_) h
        unfold execOp
        simp [e, hev _ _ hx, hev _ _ hy, Instr.indexAt, asIntOf, run_und hT.1 hti, hd, h0, h1, run_size hT.1 hei, Instr.sureAddr]
      · exact h.elim
    · rename_i t x y e
      replace h := obp_some h; obtain ⟨v0, h0, h⟩ := h
      replace h := obp_some h; obtain ⟨v1, h1, h⟩ := h
      exact runq_sm (fun a hev => by unfold execOp; simp only [e, hev _ _ h0, hev _ _ h1]) h
    · rename_i t x lo hi mx e
      replace h := obp_some h; obtain ⟨v0, h0, h⟩ := h
      replace h := obo_some h; obtain ⟨v1, h1, h⟩ := h
      replace h := obo_some h; obtain ⟨v2, h2, h⟩ := h
      replace h := obo_some h; obtain ⟨v3, h3, h⟩ := h
      exact runq_sm (fun a hev => by unfold execOp; simp only [e, hev _ _ h0, optL_ev hev h1, optL_ev hev h2, optL_ev hev h3]) h
    · rename_i b t x y yt e
      replace h := obp_some h; obtain ⟨v0, h0, h⟩ := h
      replace h := obp_some h; obtain ⟨v1, h1, h⟩ := h
      exact runq_sm (fun a hev => by unfold execOp; simp only [e, hev _ _ h0, hev _ _ h1]) h
    · rename_i t x i ok e
      replace h := obp_some h; obtain ⟨v0, h0, h⟩ := h
      replace h := obp_some h; obtain ⟨v1, h1, h⟩ := h
      exact runq_sm (fun a hev => by unfold execOp; simp only [e, hev _ _ h0, hev _ _ h1]) h
    · rename_i x t u ok e
      replace h := obp_some h; obtain ⟨v0, h0, h⟩ := h
      exact runq_sm (fun a hev => by unfold execOp; simp only [e, hev _ _ h0]) h
    · -- call
      rename_i c e
      replace h := alo_some h; obtain ⟨args, hargs, h⟩ := h
      split at h
      · rename_i f hc
        replace h := obp_some h; obtain ⟨vf, hf, h⟩ := h
        split at h <;> try (exact h.elim)
        rename_i fn first cap
        split at h <;> try (exact h.elim)
        rename_i g
        split at h <;> try (exact h.elim)
        rename_i hg
        obtain ⟨fun_, h1, h2, h3⟩ := hT.2.get hg
        have hcat : (cat (first.toList ++ args) cap.toList).toArray = first ++ args.toArray ++ cap := by
          obtain ⟨fl⟩ := first; obtain ⟨cl⟩ := cap
          cases cl <;> simp [cat]
        obtain ⟨v, hq, h⟩ := h
        refine ⟨v, h, fun a hev w hw => .inr ⟨_, _, ?_, hq w hw⟩⟩
        have ha := map_ev hev hargs
        have hrun : (execOp a.eval o).run P w = Result.ok (.enter g (cat (first.toList ++ args) cap.toList).toArray) w := by
          unfold execOp
          have h2' : fun_.name ≠ "runtime.NumGoroutine" := by simpa using h2
          have h3' : fun_.body ≠ none := by intro hn; simp [hn] at h3
          simp only [e, resolve, hc, hev _ _ hf, Deferred.ofValue, ha, hcat]
          simp [invoke, callFunc, h1, h2', h3']
        exact hrun
      · rename_i b hc
        split at h
        · exact runq_sm (fun a hev => by unfold execOp; simp only [e, resolve, hc, map_ev hev hargs, pure_bind, invoke, builtin]) h
        · exact runq_sm (fun a hev => by unfold execOp; simp only [e, resolve, hc, map_ev hev hargs, pure_bind, invoke, builtin]) h
        · exact h.elim
      · exact h.elim
    · exact h.elim
include hT in
theorem quOp_sound {a : Act} {ev : Operand → Option Value} (hcl : ∀ a b, W a → Rl a b → W b) (hev : ∀ x v, ev x = some v → a.eval x = v) {o : Oper} {k : Value → Prop} {next : Act → Prop} (h : quOp P T W Rl ev o k) (hk : ∀ v, k v → next (a.put o.dst v)) : o.quiet P a W next := by
  obtain ⟨v, hv, hr⟩ := quOp_run hT h
  refine ⟨v, fun w hw => ?_, hk v hv⟩
  unfold Oper.quietAt
  rcases hr a hev w hw with e | ⟨f, args, e, hc⟩
  · rw [e]; exact ⟨rfl, rfl⟩
  · rw [e]
    refine ⟨rfl, Calls.mono hc.out fun e w' q => ?_⟩
    cases e with
    | returned u => exact ⟨by rw [q.1], hcl _ _ hw q.2⟩
    | panicked ch => exact q.elim
    | outgrown => exact q.elim
theorem evR_evF {o : Oper} {F : Fr} {x : Operand} {v : Value} (h : evR o F x = some v) : evF F x = some v := by
  cases x with
  | tmp t =>
    simp only [evR] at h
    split at h
    · exact h
    · simp at h
  | _ => exact h
theorem quOps_sound (hT : TabOk P T) (hcl : ∀ a b, W a → Rl a b → W b) (all : List Oper) {Q : Act → Prop} : ∀ (l : List Oper) (F : Fr) (a : Act) (k : Fr → Prop),
    Agr n F a → quOps P T n W Rl all l F k → (∀ F a, Agr n F a → k F → Q a) → wpQuiet P all.toArray W Q l a
  | [], F, a, k, ha, h, hk => hk _ _ ha h
  | o :: r, F, a, k, ha, h, hk => by
    have ih := quOps_sound hT hcl all (Q := Q) r
    change stepQu P T n W Rl all o r (quOps P T n W Rl all r) F k at h
    unfold stepQu at h
    split at h; · exact h.elim
    rename_i hd
    unfold wpQuiet
    split at h
    · rename_i hg
      rw [if_pos (wanted_none hg)]
      exact quOp_sound hT hcl (fun x v h => ha.ev x v (evR_evF h)) h fun v q => ih _ _ k (ha.put hd v) q hk
    · rename_i j want hg
      split at h; · exact h.elim
      rename_i d v hgv
      obtain ⟨hl, hy⟩ := guard_yield ha hgv
      split at h
      · rename_i b
        simp only at hy
        split at h
        · cases b
          · rw [if_neg (by simp [Region.wanted, hg, hy])]
            exact ih _ _ k ((ha.same hl).put hd _) (h.2 rfl) hk
          · rw [if_pos (by simp [Region.wanted, hg, hy])]
            exact quOp_sound hT hcl (fun x v h => (ha.same hl).ev x v (evR_evF h)) (h.1 rfl) fun v q => ih _ _ k ((ha.same hl).put hd v) q hk
        · cases b
          · rw [if_pos (by simp [Region.wanted, hg, hy])]
            exact quOp_sound hT hcl (fun x v h => (ha.same hl).ev x v (evR_evF h)) (h.2 rfl) fun v q => ih _ _ k ((ha.same hl).put hd v) q hk
          · rw [if_neg (by simp [Region.wanted, hg, hy])]
            exact ih _ _ k ((ha.same hl).put hd _) (h.1 rfl) hk
      · simp only at hy
        rw [if_neg (by simp [Region.wanted, hg, hy])]
        exact ih _ _ k (ha.put hd _) h hk
      · exact h.elim
end sound
theorem quiet_still {w : World} {o : Oper} {a : Act} {K : Act → Prop} (h : o.quiet P a (fun w' => w' = w) K) : o.still P a w K := by
  obtain ⟨v, h1, h2⟩ := h
  have h3 := h1 w rfl
  unfold Oper.quietAt at h3
  unfold Oper.still
  generalize (execOp a.eval o).run P w = r at *
  cases r with
  | ok n w' =>
    cases n <;> simp only [Oper.quietUpon] at h3 <;> simp only [Oper.stillUpon]
    case value u => obtain ⟨e1, e2⟩ := h3; subst e2; exact ⟨e1, h2⟩
    case skip => obtain ⟨e1, e2⟩ := h3; subst e2; exact ⟨e1, h2⟩
    case enter f args =>
      obtain ⟨e1, hc⟩ := h3
      exact ⟨e1, v, hc, h2⟩
  | halt x w' => simp only [Oper.quietUpon] at h3
theorem wpQuiet_still {w : World} {ops : Array Oper} {Q : Act → Prop} : ∀ (l : List Oper) (a : Act), wpQuiet P ops (fun w' => w' = w) Q l a → wpStill P ops w Q l a
  | [], a, h => h
  | o :: r, a, h => by
    unfold wpQuiet at h
    unfold wpStill
    split
    · rename_i hw
      rw [if_pos hw] at h
      exact quiet_still (Oper.quiet_mono (fun a q => wpQuiet_still r a q) h)
    · rename_i hw
      rw [if_neg hw] at h
      exact wpQuiet_still r _ h
def QW (W : World → Prop) (w : World) (Rl : World → World → Prop) : Prop := (∀ w', W w' → Ext w w') ∧ (∀ a b, W a → Rl a b → W b)
theorem Dr.quiet (hT : TabOk P T) (hm : P.follows .mixedOrders = true) {id : Nat} {ops : Array Oper} {F : Fr} {w : World} {K : Exit → Fr → World → Prop} (hB : Region.lexB .any ops = true)
    (h : ∀ W, QW W w Ext → quOps P T n W Ext ops.toList ops.toList F (fun F' => ∀ w', Ext w w' → K .normal F' w')) : Dr P n id ops F w K := by
  refine ⟨fun a ha => ?_⟩
  refine wp_region_quiet (C := fun w' => Ext w w') hm hB ⟨rfl, rfl, rfl, Nat.le_refl _, fun _ _ => rfl⟩ ?_
  exact quOps_sound hT (fun a b q r => Ext.trans q r) ops.toList ops.toList F a _ ha (h _ ⟨fun _ q => q, fun a b q r => Ext.trans q r⟩) fun F a ha q w' hw' => ⟨F, ha, q w' hw'⟩
theorem Dr.tail (hT : TabOk P T) (hm : P.follows .mixedOrders = true) (m : Nat) {id : Nat} {ops : Array Oper} {F : Fr} {w : World} {K : Exit → Fr → World → Prop} (hB : Region.lexTailB .any ops m = true)
    (h : ∀ W w1, QW W w (fun a b => b = a) → Ext w w1 → w1.heap.size = w.heap.size →
      quOps P T n W (fun a b => b = a) ops.toList (ops.toList.take m) F (fun F' => exOps P T n ops.toList (ops.toList.drop m) F' w1 (fun F w => K .normal F w) (fun ch F w => K (.panic ch) F w))) : Dr P n id ops F w K := by
  refine ⟨fun a ha => ?_⟩
  obtain ⟨l⟩ := ops
  have e1 : Ext w { w with drawn := w.drawn + 1 } := ⟨rfl, rfl, rfl, Nat.le_refl _, fun _ _ => rfl⟩
  refine wp_region_still_tail m hm hB (wpQuiet_still _ _ ?_)
  exact quOps_sound hT (fun a b q r => r.trans q) l (l.take m) F a _ ha (h _ { w with drawn := w.drawn + 1 } ⟨fun w' q => q ▸ e1, fun a b q r => r.trans q⟩ e1 rfl) fun F a ha q =>
    exOps_sound hT l (l.drop m) F a _ _ _ ha q (fun F a w ha q => ⟨F, ha, q⟩) (fun ch F a w ha q => ⟨F, ha, q⟩)

section rules
variable {w : World} {Rl : World → World → Prop} (hW : QW W w Rl)
include hW
theorem QLd.blk {b o m : Nat} {t : TypeId} {vs : List Value} {k : List Value → Prop} (h : Blk w b t vs) (hm : ((vs.drop o).take m).length = m) (hk : k ((vs.drop o).take m)) : QLd W ⟨b, o, none⟩ m k := by
  refine ⟨_, fun w' hw' => ⟨hm, fun i v hv => ?_⟩, hk⟩
  rw [add_lit, (h.ext (hW.1 w' hw')).cell]
  have : i < m := by have := (List.getElem?_eq_some_iff.1 hv).1; omega
  rw [List.getElem?_take_of_lt this, List.getElem?_drop] at hv
  exact hv
theorem QLd1.blk {b o : Nat} {t : TypeId} {vs : List Value} {v : Value} {k : Value → Prop} (h : Blk w b t vs) (hv : vs[o]? = some v) (hk : k v) : QLd1 W ⟨b, o, none⟩ k :=
  ⟨v, fun w' hw' => ((h.ext (hW.1 w' hw')).cell o).trans hv, hk⟩
variable {α : Type} {sz B : Nat} {A : Option Addr} {l : List α} {enc : α → List Value} {i o : Nat} {x : α}
theorem QLd.rd {k : List Value → Prop} (h : Rd (Fl enc) sz w B A l) (hB : B ≤ w.heap.size) (hx : l[i]? = some x) (hk : k (enc x)) : QLd W ((gA A).add (i * sz)) sz k := by
  refine ⟨enc x, fun w' hw' => ?_, hk⟩
  obtain ⟨vs, h1, h2, h3⟩ := (h.ext (hW.1 w' hw') hB).at_ i x hx
  unfold Fl at h2
  subst h2
  exact ⟨h1, fun j v hv => by rw [add_add]; exact h3 j v hv⟩
theorem QLd1.rd {v : Value} {k : Value → Prop} (h : Rd (Fl enc) 1 w B A l) (hB : B ≤ w.heap.size) (hx : l[i]? = some x) (hv : (enc x)[0]? = some v) (hk : k v) : QLd1 W ((gA A).add (i * 1)) k := by
  refine ⟨v, fun w' hw' => ?_, hk⟩
  obtain ⟨vs, h1, h2, h3⟩ := (h.ext (hW.1 w' hw') hB).at_ i x hx
  unfold Fl at h2
  subst h2
  simpa using h3 0 v hv
theorem QLd1.rdF {v : Value} {k : Value → Prop} (h : Rd (Fl enc) sz w B A l) (hB : B ≤ w.heap.size) (hx : l[i]? = some x) (hv : (enc x)[o]? = some v) (hk : k v) : QLd1 W (pAdd ((gA A).add (i * sz)) o) k := by
  refine ⟨v, fun w' hw' => ?_, hk⟩
  obtain ⟨vs, h1, h2, h3⟩ := (h.ext (hW.1 w' hw') hB).at_ i x hx
  unfold Fl at h2
  subst h2
  rw [pAdd_add]
  exact h3 o v hv
theorem QLd.rs {k : List Value → Prop} (h : RdS enc sz w A l) (hx : l[i]? = some x) (hk : k (enc x)) : QLd W ((gA A).add (i * sz)) sz k := QLd.rd hW h (Nat.le_refl _) hx hk
theorem QLd1.rs {v : Value} {k : Value → Prop} (h : RdS enc 1 w A l) (hx : l[i]? = some x) (hv : (enc x)[0]? = some v) (hk : k v) : QLd1 W ((gA A).add (i * 1)) k := QLd1.rd hW h (Nat.le_refl _) hx hv hk
theorem QLd1.rsF {v : Value} {k : Value → Prop} (h : RdS enc sz w A l) (hx : l[i]? = some x) (hv : (enc x)[o]? = some v) (hk : k v) : QLd1 W (pAdd ((gA A).add (i * sz)) o) k := QLd1.rdF hW h (Nat.le_refl _) hx hv hk
theorem QCl.mk {f : Nat} {args : Array Value} {v : Value} {k : Value → Prop} (h : ∀ w', Ext w w' → Cl P f args w' (fun u w'' => u = v ∧ Rl w' w'') (fun _ _ => False)) (hk : k v) : QCl P f args W Rl k :=
  ⟨v, fun w' hw' => h w' (hW.1 w' hw'), hk⟩
theorem QSm.mk {s : Sem Value} {v : Value} {k : Value → Prop} (h : ∀ w', Ext w w' → s.run P w' = .ok v w') (hk : k v) : QSm P s W k := ⟨v, fun w' hw' => h w' (hW.1 w' hw'), hk⟩
end rules
end
end Go.Sh
namespace Go.Sh
open Go.RowKit
section
variable {α : Type} {enc : α → List Value} {sz : Nat} {e : TypeId} {w w' : World} {B : Nat} {A : Option Addr} {c : Nat} {l : List α}
def Own (enc : α → List Value) (sz : Nat) (e : TypeId) (w : World) (B : Nat) (A : Option Addr) (c : Nat) (l : List α) : Prop :=
  (∀ x ∈ l, (enc x).length = sz) ∧ w.ownsRow B e sz (.slice A l.length c) l.length (l.flatMap enc)
theorem Own.nil : Own enc sz e w B none 0 ([] : List α) := ⟨by simp, by simp, .inl ⟨rfl, rfl⟩⟩
theorem flatMap_at (h : ∀ x ∈ l, (enc x).length = sz) : ∀ (i : Nat) (x : α), l[i]? = some x → ∀ (j : Nat) (v : Value), (enc x)[j]? = some v → (l.flatMap enc)[i * sz + j]? = some v := by
  induction l with
  | nil => intro i x h; simp at h
  | cons y r ih =>
    intro i x hx j v hv
    have hy := h y (by simp)
    cases i with
    | zero =>
      simp at hx; subst hx
      simp only [List.flatMap_cons, Nat.zero_mul, Nat.zero_add]
      rw [List.getElem?_append_left (by have := (List.getElem?_eq_some_iff.1 hv).1; omega)]
      exact hv
    | succ i =>
      simp at hx
      simp only [List.flatMap_cons]
      rw [List.getElem?_append_right (by rw [hy, Nat.add_mul]; omega)]
      have := ih (fun x hx => h x (by simp [hx])) i x hx j v hv
      rw [hy, show (i + 1) * sz + j - sz = i * sz + j by rw [Nat.add_mul]; omega]
      exact this
theorem Own.rd (h : Own enc sz e w B A c l) : RdS enc sz w A l := by
  obtain ⟨hl, hlen, hr⟩ := h
  rcases hr with ⟨hv, hn⟩ | ⟨g, cap, cur, hv, hg, hh, hcap, hmax, hcs, htk⟩
  · have : l = [] := List.eq_nil_of_length_eq_zero hn
    subst this
    exact Rd.nil
  · simp only [Value.slice.injEq] at hv
    obtain ⟨rfl, _, rfl⟩ := hv
    refine ⟨fun hn => ⟨by simp, ?_⟩, fun i x hx => ⟨enc x, hl x (List.mem_of_getElem? hx), rfl, fun j v hv => ?_⟩⟩
    · exact (Array.getElem?_eq_some_iff.1 hh).1
    · have hi := (List.getElem?_eq_some_iff.1 hx).1
      have hj := (List.getElem?_eq_some_iff.1 hv).1
      have hj' : j < sz := by rw [← hl x (List.mem_of_getElem? hx)]; exact hj
      have := flatMap_at hl i x hx j v hv
      rw [← htk] at this
      have hlt : i * sz + j < l.length * sz := by
        calc i * sz + j < i * sz + sz := by omega
          _ = (i + 1) * sz := by rw [Nat.add_mul]; omega
          _ ≤ l.length * sz := Nat.mul_le_mul_right _ hi
      rw [List.getElem?_take_of_lt hlt] at this
      simp only [gA]
      rw [add_lit, Nat.zero_add]
      simp [World.cell?, hh]
      simpa using this
def obk (A : Option Addr) : Option Nat := A.map (·.block)
theorem obk_eq (A : Option Addr) (n m : Nat) : (Value.slice A n m).ownBlock = obk A := by cases A <;> rfl
def Grow (A : Option Addr) (w w' : World) : Prop := w.grownBy w' (Value.slice A 0 0).ownBlock
theorem own_block (A : Option Addr) (n m n' m' : Nat) : (Value.slice A n m).ownBlock = (Value.slice A n' m').ownBlock := by cases A <;> rfl
theorem Own.block (h : Own enc sz e w B A c l) : ∀ k, (Value.slice A 0 0).ownBlock = some k → B ≤ k := by
  intro k hk
  rcases h.2.2 with ⟨hv, _⟩ | ⟨g, cap, cur, hv, hg, _⟩
  · simp only [Value.slice.injEq] at hv
    rw [hv.1] at hk; simp [Value.ownBlock] at hk
  · simp only [Value.slice.injEq] at hv
    rw [hv.1] at hk; simp [Value.ownBlock] at hk; omega
theorem Grow.below (g : Grow A w w') (h : Own enc sz e w B A c l) (hB : B ≤ w.heap.size) : Below B w w' := (Below.refl B w).grown g hB h.block
theorem Blk.grow {b : Nat} {t : TypeId} {cs : List Value} (hb : Blk w b t cs) (g : Grow A w w') (h : Own enc sz e w B A c l) (hne : t ≠ e) : Blk w' b t cs := by
  refine (g.block b hb.lt fun he => ?_).trans hb
  rcases h.2.2 with ⟨hv, _⟩ | ⟨g', cap, cur, hv, hg, hh, _⟩
  · simp only [Value.slice.injEq] at hv
    rw [hv.1] at he; simp [Value.ownBlock] at he
  · simp only [Value.slice.injEq] at hv
    rw [hv.1] at he
    simp [Value.ownBlock] at he
    subst he
    unfold Blk at hb
    rw [hb] at hh
    simp at hh
    exact hne hh.2
theorem Own.ext (h : Own enc sz e w B A c l) (x : Ext w w') : Own enc sz e w' B A c l := by
  obtain ⟨hl, hlen, hr⟩ := h
  refine ⟨hl, hlen, ?_⟩
  rcases hr with h1 | ⟨g, cap, cur, hv, hg, hh, r⟩
  · exact .inl h1
  · exact .inr ⟨g, cap, cur, hv, hg, (Below.block x g (Array.getElem?_eq_some_iff.1 hh).1).trans hh, r⟩
theorem Own.from (x : Ext w w') (h : Own enc sz e w B A c l) : Own enc sz e w' B A c l := h.ext x
theorem Own.upd {b : Nat} {t : TypeId} {cs : List Value} (h : Own enc sz e w B A c l) (u : Upd b w w') (hb : Blk w b t cs) (hne : t ≠ e) : Own enc sz e w' B A c l := by
  obtain ⟨hl, hlen, hr⟩ := h
  refine ⟨hl, hlen, ?_⟩
  rcases hr with h1 | ⟨g, cap, cur, hv, hg, hh, r⟩
  · exact .inl h1
  · refine .inr ⟨g, cap, cur, hv, hg, (u.block g fun he => ?_).trans hh, r⟩
    subst he
    unfold Blk at hb
    rw [hb] at hh
    simp at hh
    exact hne hh.2
theorem Own.grow {A2 : Option Addr} {c2 : Nat} {l2 : List α} (h : Own enc sz e w B A2 c2 l2) (g : Grow A w w') (hne : obk A2 = none ∨ obk A2 ≠ obk A) : Own enc sz e w' B A2 c2 l2 := by
  obtain ⟨hl, hlen, hr⟩ := h
  refine ⟨hl, hlen, ?_⟩
  rcases hr with h1 | ⟨g', cap, cur, hv, hg, hh, r⟩
  · exact .inl h1
  · refine .inr ⟨g', cap, cur, hv, hg, (g.block g' (Array.getElem?_eq_some_iff.1 hh).1 fun he => ?_).trans hh, r⟩
    simp only [Value.slice.injEq] at hv
    rw [hv.1] at hne
    rw [obk_eq] at he
    rcases hne with h1 | h1
    · simp [obk] at h1
    · exact h1 (by rw [← he]; rfl)
theorem Blk.grow' {b : Nat} {t : TypeId} {cs : List Value} (hb : Blk w b t cs) (g : Grow A w w') (hne : obk A ≠ some b) : Blk w' b t cs :=
  (g.block b hb.lt fun he => hne (by rw [he, obk_eq])).trans hb
theorem Own.upd' {b : Nat} (h : Own enc sz e w B A c l) (u : Upd b w w') (hne : obk A ≠ some b) : Own enc sz e w' B A c l := by
  obtain ⟨hl, hlen, hr⟩ := h
  refine ⟨hl, hlen, ?_⟩
  rcases hr with h1 | ⟨g, cap, cur, hv, hg, hh, r⟩
  · exact .inl h1
  · refine .inr ⟨g, cap, cur, hv, hg, (u.block g fun he => ?_).trans hh, r⟩
    simp only [Value.slice.injEq] at hv
    rw [hv.1] at hne
    exact hne (by rw [← he]; rfl)
theorem Own.obk_lt (h : Own enc sz e w B A c l) : ∀ k, obk A = some k → k < w.heap.size ∧ B ≤ k := by
  intro k hk
  rcases h.2.2 with ⟨hv, _⟩ | ⟨g, cap, cur, hv, hg, hh, _⟩
  · simp only [Value.slice.injEq] at hv
    rw [hv.1] at hk; simp [obk] at hk
  · simp only [Value.slice.injEq] at hv
    rw [hv.1] at hk; simp [obk] at hk
    subst hk
    exact ⟨(Array.getElem?_eq_some_iff.1 hh).1, hg⟩
theorem Blk.ne {b b' : Nat} {t t' : TypeId} {cs cs' : List Value} (h : Blk w b t cs) (h' : Blk w b' t' cs') (hne : t ≠ t') : b ≠ b' := fun e' => by
  subst e'
  unfold Blk at h h'
  rw [h] at h'
  simp at h'
  exact hne h'.2
theorem Grow.ext {w0 : World} (x : Ext w0 w) (g : Grow A w w') (h : Own enc sz e w B A c l) (hB : w0.heap.size ≤ B) : Ext w0 w' :=
  Below.trans x ((Below.refl w0.heap.size w).grown g x.size fun k hk => Nat.le_trans hB (h.block k hk))
def Fresh (w : World) (A : Option Addr) : Prop := ∀ b, obk A = some b → w.heap.size ≤ b
theorem RdS.keep (h : RdS enc sz w A l) (hs : w.heap.size ≤ w'.heap.size) (hb : ∀ b, obk A = some b → b < w.heap.size → w'.heap[b]? = w.heap[b]?) : RdS enc sz w' A l := by
  refine ⟨fun hn => ⟨(h.some hn).1, Nat.lt_of_lt_of_le (h.some hn).2 hs⟩, fun i x hx => ?_⟩
  obtain ⟨vs, h1, h2, h3⟩ := h.at_ i x hx
  refine ⟨vs, h1, h2, fun j v hv => ?_⟩
  obtain ⟨hn, hlt⟩ := h.some (fun e => by subst e; simp at hx)
  obtain ⟨ad, rfl⟩ := Option.ne_none_iff_exists'.1 hn
  rw [World.cell?_of_block (w := w)]
  · exact h3 j v hv
  · rw [block_add]; exact hb _ rfl hlt
theorem RdS.lt (h : RdS enc sz w A l) (hn : l ≠ []) : ∀ b, obk A = some b → b < w.heap.size := fun b hb => by
  obtain ⟨h1, h2⟩ := h.some hn
  obtain ⟨ad, rfl⟩ := Option.ne_none_iff_exists'.1 h1
  simp [obk] at hb; subst hb; exact h2
theorem obk_new {A A2 B' : Option Addr} {n : Nat} (h : obk A = none ∨ obk A ≠ obk A2) (hb : obk B' = obk A2 ∨ obk B' = some n) (hlt : ∀ b, obk A = some b → b < n) : obk A = none ∨ obk A ≠ obk B' := by
  rcases h with h | h
  · exact .inl h
  · rcases hb with h2 | h2 <;> rw [h2]
    · exact .inr h
    · exact .inr fun e => by have := hlt n e; omega
theorem RdS.upd {b : Nat} (h : RdS enc sz w A l) (u : Upd b w w') (hne : obk A ≠ some b) : RdS enc sz w' A l :=
  h.keep (by rw [u.size]; exact Nat.le_refl _) fun c hc _ => u.block c fun e => hne (by rw [hc, e])
theorem RdS.grow {A2 : Option Addr} (h : RdS enc sz w A l) (g : Grow A2 w w') (hne : obk A = none ∨ obk A ≠ obk A2) : RdS enc sz w' A l :=
  h.keep g.size fun c hc hlt => g.block c hlt fun e => by
    rw [obk_eq] at e
    rcases hne with h1 | h1
    · rw [hc] at h1; cases h1
    · exact h1 (by rw [hc, e])
variable {P : Program} {T : Tab}
theorem Sm.app (hT : TabOk P T) {t ty : TypeId} {ti ei : TI} {X : Option Addr} {m : List α} {n n2 c2 : Nat} {k : Value → World → Prop} {Y : List PanicEntry → World → Prop}
    (ht : getT T.ts t = some ti) (hd : ti.desc = .slice e) (he : getT T.ts e = some ei) (hsz : ei.size = sz) (hz : ei.zero.cells.size = sz) (hpos : 0 < sz)
    (h : Own enc sz e w B A c l) (hn : n = l.length) (hr : RdS enc sz w X m) (hn2 : n2 = m.length) (hm : ∀ x ∈ m, (enc x).length = sz) (h1 : ∀ x ∈ m, ∀ v ∈ enc x, v.oneCell' = true)
    (hlen : (l.length + m.length) * ei.bytes ≤ 140737488355328) (hlen2 : l.length + m.length ≤ 140737488355328) (hB : B ≤ w.heap.size)
    (hk : ∀ A' c' w', Own enc sz e w' B A' c' (l ++ m) → Grow A w w' → (obk A' = obk A ∨ obk A' = some w.heap.size) → k (.slice A' (l ++ m).length c') w') : Sm P (Builtin.append_ #[t, t] ty #[.slice A n c, .slice X n2 c2]) w k Y := by
  subst hn hn2
  obtain ⟨j, hj, hjz, hjs, hjb⟩ := info_of hT.1 he
  have hu := (hT.1.get ht).1
  rw [hd] at hu
  have hfl : (m.flatMap enc).length = m.length * sz := by
    clear hlen hlen2 hr hk h1
    induction m with
    | nil => simp
    | cons x r ih =>
      simp only [List.flatMap_cons, List.length_append, List.length_cons]
      rw [ih (fun y hy => hm y (by simp [hy])), hm x (by simp), Nat.add_mul]; omega
  have fin : ∀ v' w2, w2.ownsRow B e sz v' (l.length + m.length) (l.flatMap enc ++ m.flatMap enc) → w.grownBy w2 (Value.slice A l.length c).ownBlock → (v'.ownBlock = (Value.slice A l.length c).ownBlock ∨ v'.ownBlock = some w.heap.size) → k v' w2 := by
    intro v' w2 h2 h3 h4
    have key : ∃ A' c', v' = .slice A' (l ++ m).length c' := by
      rcases h2.2 with ⟨rfl, h0⟩ | ⟨g, cap, cur, rfl, _⟩
      · have h00 : l.length + m.length = 0 := h0
        have : (l ++ m).length = 0 := by rw [List.length_append]; exact h00
        exact ⟨none, 0, by rw [this]⟩
      · exact ⟨some ⟨g, 0, none⟩, cap, by simp⟩
    obtain ⟨A', c', rfl⟩ := key
    refine hk A' c' w2 ⟨fun x hx => ?_, ?_⟩ ?_ (by rw [← obk_eq A' (l ++ m).length c', ← obk_eq A l.length c]; exact h4)
    · rcases List.mem_append.1 hx with hx | hx
      · exact h.1 x hx
      · exact hm x hx
    · simpa using h2
    · unfold Grow; rw [own_block A 0 0 l.length c]; exact h3
  refine ⟨?_⟩
  cases X with
  | none =>
    have hm0 : m = [] := by
      rcases m with _ | ⟨x, r⟩
      · rfl
      · exact absurd rfl (hr.some (by simp)).1
    subst hm0
    have hrun : (Builtin.append_ #[t, t] ty #[.slice A l.length c, .slice none 0 c2]).run P w = Result.ok (.slice A l.length c) w := by
      rcases h.2.2 with ⟨hv, hn⟩ | ⟨g, cap, cur, hv, _, _, hnc, _⟩
      · simp only [Value.slice.injEq] at hv
        obtain ⟨rfl, h0, rfl⟩ := hv
        simp [h0, Builtin.append_, Go.underlying, hu, Go.sizeOf, typeInfo, hj, Builtin.lenOf, Builtin.firstCells]
      · simp only [Value.slice.injEq] at hv
        obtain ⟨rfl, _, rfl⟩ := hv
        simp [Builtin.append_, Go.underlying, hu, Go.sizeOf, typeInfo, hj, Builtin.lenOf, Builtin.firstCells, hnc, storeCells]
    simp only [List.length_nil]
    rw [hrun]
    exact fin _ _ (by simpa using h.2) ⟨rfl, rfl, rfl, Nat.le_refl _, fun _ _ _ => rfl⟩ (.inl rfl)
  | some ad =>
    have hnews : ∀ j u, (m.flatMap enc)[j]? = some u → w.cell? (ad.add j) = some u := by
      intro j u hu
      have hjl := (List.getElem?_eq_some_iff.1 hu).1
      rw [hfl] at hjl
      have hq : j / sz < m.length := Nat.div_lt_of_lt_mul (by rw [Nat.mul_comm]; exact hjl)
      obtain ⟨vs, g1, g2, g3⟩ := hr.at_ (j / sz) m[j / sz] (List.getElem?_eq_getElem hq)
      unfold Fl at g2
      subst g2
      have hr := Nat.mod_lt j hpos
      have hx : (enc m[j / sz])[j % sz]? = some ((enc m[j / sz])[j % sz]'(by rw [g1]; exact hr)) := List.getElem?_eq_getElem _
      have e1 := flatMap_at hm (j / sz) _ (List.getElem?_eq_getElem hq) (j % sz) _ hx
      have e2 := g3 (j % sz) _ hx
      have hdm : j / sz * sz + j % sz = j := by rw [Nat.mul_comm]; exact Nat.div_add_mod j sz
      rw [hdm] at e1 e2
      rw [hu] at e1
      simp only [gA] at e2
      rw [e2, ← e1]
    have := run_append_own_at (P := P) w B t ty e j ei.zero sz ei.bytes hu hj hjz (hjs.trans hsz) hjb hz hpos (.slice A l.length c) l.length (l.flatMap enc) h.2 ad m.length c2 (m.flatMap enc) hfl hnews
      (fun u hu => by obtain ⟨x, hx, hv⟩ := List.mem_flatMap.1 hu; exact h1 x hx u hv) (by simp only [maxLen]; omega) hlen hB
    obtain ⟨v', w2, hrun, h2, h3, _, h5⟩ := this
    rw [hrun]
    exact fin _ _ h2 h3 h5
theorem own_of_blk {p : Nat} {cs : List Value} {c : Nat} (hb : Blk w p e cs) (hB : B ≤ p) (hl : ∀ x ∈ l, (enc x).length = sz) (hf : (l.flatMap enc).length = l.length * sz) (hc : l.length ≤ c) (hm : c ≤ maxLen) (hcs : cs.length = c * sz) (htk : cs.take (l.length * sz) = l.flatMap enc) :
    Own enc sz e w B (some ⟨p, 0, none⟩) c l :=
  ⟨hl, hf, .inr ⟨p, c, cs.toArray, rfl, hB, hb, hc, hm, by simpa using hcs, by simpa using htk⟩⟩
theorem madeL {z : List Value} {n : Nat} (hz : z.length = sz) (hpos : 0 < sz) : madeCells z.toArray (n * sz) = ((List.replicate n z).flatten).toArray := by
  apply Array.ext'
  simp only [madeCells, Array.toList_map, Array.toList_range, List.size_toArray, hz]
  apply List.ext_getElem?
  intro i
  simp only [List.getElem?_map]
  have hfl : (List.replicate n z).flatten = (List.replicate n z).flatMap id := by simp [List.flatMap]
  rw [hfl]
  by_cases hi : i < n * sz
  · have hq : i / sz < n := Nat.div_lt_of_lt_mul (by rw [Nat.mul_comm]; exact hi)
    have hr := Nat.mod_lt i hpos
    have hm := flatMap_at (enc := id) (sz := sz) (l := List.replicate n z) (fun x hx => by rw [List.eq_of_mem_replicate hx]; exact hz) (i / sz) z (by simp [hq]) (i % sz) _ (List.getElem?_eq_getElem (by simp; omega))
    have hdm : i / sz * sz + i % sz = i := by rw [Nat.mul_comm]; exact Nat.div_add_mod i sz
    rw [hdm] at hm
    rw [hm, List.getElem?_range hi]
    simp
    rw [List.getElem?_eq_getElem (by omega)]
    rfl
  · rw [List.getElem?_eq_none (by simp; omega)]
    symm
    have hlen : ((List.replicate n z).flatMap id).length = n * sz := by simp [hz]
    simp only [List.getElem?_eq_none_iff, hlen, Option.map_none]
    omega
/-- a literal of a slice: one new block -/
theorem Sm.lit (hT : TabOk P T) {t : TypeId} {ti ei : TI} {len : Nat} {parts : List (Nat × Value)} {cs : List Value} {k : Value → World → Prop} {Y : List PanicEntry → World → Prop}
    (ht : getT T.ts t = some ti) (hd : ti.desc = .slice e) (he : getT T.ts e = some ei) (hz : Nat.beq ei.zero.cells.toList.length ei.size = true)
    (hcs : puBuild ((List.range len).map fun i => (i * ei.size, ei.size)) (List.replicate len ei.zero.cells.toList).flatten (parts.map fun (i, v) => (i, some v)) = some cs)
    (hsmall : Nat.ble (len * ei.size) 16777216 = true) (hne : Nat.blt 0 (len * ei.size) = true)
    (hk : ∀ p w', w.heap.size = p → Blk w' p e cs → Ext w w' → w'.heap.size = p + 1 → k (.slice (some ⟨p, 0, none⟩) len len) w') : Sm P (Instr.buildSlice t len parts.toArray) w k Y := by
  have hsmall := Nat.le_of_ble_eq_true hsmall
  have hne : 0 < len * ei.size := by simpa using hne
  have hz := Nat.eq_of_beq_eq_true hz
  have hpos : 0 < ei.size := Nat.pos_of_mul_pos_left hne
  have hlen : 0 < len := Nat.pos_of_mul_pos_right hne
  have hmade := madeL (n := len) hz hpos
  have hfill := fill_sound ((List.range len).map fun i => (i * ei.size, ei.size)) (fun i => some (i * ei.size, ei.size)) (fun i x h => by
      simp only [List.getElem?_map, Option.map_eq_some_iff] at h
      obtain ⟨j, hj, rfl⟩ := h
      have := (List.getElem?_eq_some_iff.1 hj)
      obtain ⟨h1, h2⟩ := this
      simp at h2; subst h2; rfl) (parts.map fun (i, v) => (i, some v)) parts _ cs (by simp)
    (fun k i v? hk v hv => by
      simp only [List.getElem?_map, Option.map_eq_some_iff] at hk
      obtain ⟨y, hy, he⟩ := hk
      simp only [Prod.mk.injEq] at he
      obtain ⟨rfl, rfl⟩ := he
      simp at hv; subst hv
      exact hy) hcs
  refine ⟨?_⟩
  have hrun : (Instr.buildSlice t len parts.toArray).run P w = Result.ok (.slice (some ⟨w.heap.size, 0, none⟩) len len) (w.alloc (.cells cs.toArray e)) := by
    simp only [Instr.buildSlice, Sem.run_bind, run_und hT.1 ht, hd, Result.andThen_ok, run_size hT.1 he]
    rw [if_neg (by omega), if_neg (by omega)]
    simp only [Sem.run_bind, Result.andThen_ok, run_zero hT.1 he, Sem.run_pure]
    have e1 : ((Array.range (len * ei.size)).map (ei.zero.cells[· % ei.zero.cells.size]!)) = (List.replicate len ei.zero.cells.toList).flatten.toArray := by
      rw [← hmade]; simp [madeCells]
    rw [e1]
    simp only [hfill]
    simp [newRow]
  rw [hrun]
  exact hk _ _ rfl (by unfold Blk; show (w.heap.push _)[w.heap.size]? = _; simp) (Ext.alloc w _) (by show (w.heap.push _).size = _; simp)
/-- make([]T, n) -/
theorem Sm.make (hT : TabOk P T) {t : TypeId} {ti ei : TI} {n : Nat} {kl kc : IntKind} {a b : Int} {z : α} {k : Value → World → Prop} {Y : List PanicEntry → World → Prop}
    (ht : getT T.ts t = some ti) (hd : ti.desc = .slice e) (he : getT T.ts e = some ei) (ha : a = (n : Int)) (hb : b = (n : Int)) (hsz : ei.size = sz) (hz : ei.zero.cells.toList = enc z) (hzl : (enc z).length = sz) (hpos : 0 < sz)
    (hbytes : ei.bytes * n ≤ 281474976710656) (h63 : n ≤ 140737488355328)
    (hk : ∀ p w', w.heap.size = p → Blk w' p e ((List.replicate n z).flatMap enc) → Ext w w' → k (.slice (some ⟨p, 0, none⟩) n n) w') : Sm P (Instr.makeSlice t (.int kl a) (.int kc b)) w k Y := by
  subst ha hb
  obtain ⟨j, hj, hjz, hjs, hjb⟩ := info_of hT.1 he
  have hu := (hT.1.get ht).1
  rw [hd] at hu
  obtain ⟨w', hrun, ho, hg⟩ := run_make_full (P := P) w 0 t e j ei.zero sz hu hj hjz (hjs.trans hsz) kl kc n (by rw [hjb]; exact hbytes) (by simp only [maxLen]; omega) (by omega)
  refine ⟨?_⟩
  rw [hrun]
  refine hk _ _ rfl ?_ ⟨hg.os, hg.tape, hg.output, hg.size, fun i hi => hg.block i hi (by simp)⟩
  have hcells : madeCells ei.zero.cells (n * sz) = ((List.replicate n z).flatMap enc).toArray := by
    have hzc : ei.zero.cells = (enc z).toArray := by apply Array.ext'; simpa using hz
    rw [hzc, madeL hzl hpos]
    simp [List.flatMap]
  obtain ⟨hl, hr⟩ := ho
  rcases hr with ⟨hv, hn⟩ | ⟨g, cap, cur, hv, hg', hh, hcap, hmax, hcs, htk⟩
  · simp at hv
  · simp only [Value.slice.injEq, Option.some.injEq, Addr.mk.injEq] at hv
    obtain ⟨⟨rfl, _⟩, _, rfl⟩ := hv
    unfold Blk
    rw [hh]
    congr 2
    apply Array.ext'
    rw [← hcells]
    rw [← htk, ← hcs, List.take_of_length_le (by simp)]
end
end Go.Sh
namespace Go.Proofs.YtbbadmlekagloaaDoor
open Go Go.Sh
set_option maxRecDepth 100000
namespace T
def t0 : TI := ⟨.tuple #[], 1, 0, (.tuple #[]), false⟩
def t1 : TI := ⟨.func #[] #[] false, 1, 8, .nilFunc, false⟩
def t2 : TI := ⟨.int .i64, 1, 8, (.int .i64 0), false⟩
def t3 : TI := ⟨.int .i64, 1, 8, (.int .i64 0), false⟩
def t4 : TI := ⟨.bool, 1, 1, (.bool false), false⟩
def t5 : TI := ⟨.int .u8, 1, 1, (.int .u8 0), false⟩
def t9 : TI := ⟨.string, 1, 16, (.string ⟨#[]⟩), false⟩
def t12 : TI := ⟨.int .u64, 1, 8, (.int .u64 0), false⟩
def t13 : TI := ⟨.struct #[⟨"msg", 9, 0, false, "", "runtime", 0⟩, ⟨"addr", 12, 1, false, "", "runtime", 16⟩], 2, 24, (.agg #[(.string ⟨#[]⟩), (.int .u64 0)]), false⟩
def t20 : TI := ⟨.interface #[], 1, 16, .nilIface, false⟩
def t21 : TI := ⟨.int .i32, 1, 4, (.int .i32 0), false⟩
def t22 : TI := ⟨.slice 35, 1, 24, (.slice none 0 0), false⟩
def t23 : TI := ⟨.struct #[⟨"Params", 3, 0, false, "", "", 0⟩, ⟨"Regs", 3, 1, false, "", "", 8⟩, ⟨"Slots", 3, 2, false, "", "", 16⟩, ⟨"Code", 22, 3, false, "", "", 24⟩], 4, 48, (.agg #[(.int .i64 0), (.int .i64 0), (.int .i64 0), (.slice none 0 0)]), false⟩
def t24 : TI := ⟨.struct #[⟨"Params", 3, 0, false, "", "", 0⟩, ⟨"Regs", 3, 1, false, "", "", 8⟩, ⟨"Slots", 3, 2, false, "", "", 16⟩, ⟨"Code", 22, 3, false, "", "", 24⟩], 4, 48, (.agg #[(.int .i64 0), (.int .i64 0), (.int .i64 0), (.slice none 0 0)]), false⟩
def t25 : TI := ⟨.slice 38, 1, 24, (.slice none 0 0), false⟩
def t26 : TI := ⟨.func #[24] #[25] false, 1, 8, .nilFunc, false⟩
def t27 : TI := ⟨.tuple #[24, 22], 1, 0, (.tuple #[(.agg #[(.int .i64 0), (.int .i64 0), (.int .i64 0), (.slice none 0 0)]), (.slice none 0 0)]), false⟩
def t28 : TI := ⟨.func #[24] #[24, 22] false, 1, 8, .nilFunc, false⟩
def t29 : TI := ⟨.func #[25, 25] #[4] false, 1, 8, .nilFunc, false⟩
def t30 : TI := ⟨.func #[25, 3] #[] false, 1, 8, .nilFunc, false⟩
def t31 : TI := ⟨.func #[25] #[] false, 1, 8, .nilFunc, false⟩
def t32 : TI := ⟨.func #[25, 3] #[4] false, 1, 8, .nilFunc, false⟩
def t33 : TI := ⟨.func #[24, 24] #[4] false, 1, 8, .nilFunc, false⟩
def t34 : TI := ⟨.struct #[⟨"Kind", 3, 0, false, "", "", 0⟩, ⟨"A", 3, 1, false, "", "", 8⟩, ⟨"B", 3, 2, false, "", "", 16⟩, ⟨"C", 3, 3, false, "", "", 24⟩, ⟨"K", 2, 4, false, "", "", 32⟩], 5, 40, (.agg #[(.int .i64 0), (.int .i64 0), (.int .i64 0), (.int .i64 0), (.int .i64 0)]), true⟩
def t35 : TI := ⟨.struct #[⟨"Kind", 3, 0, false, "", "", 0⟩, ⟨"A", 3, 1, false, "", "", 8⟩, ⟨"B", 3, 2, false, "", "", 16⟩, ⟨"C", 3, 3, false, "", "", 24⟩, ⟨"K", 2, 4, false, "", "", 32⟩], 5, 40, (.agg #[(.int .i64 0), (.int .i64 0), (.int .i64 0), (.int .i64 0), (.int .i64 0)]), true⟩
def t36 : TI := ⟨.func #[3] #[35] false, 1, 8, .nilFunc, false⟩
def t37 : TI := ⟨.func #[24] #[4] false, 1, 8, .nilFunc, false⟩
def t38 : TI := ⟨.slice 3, 1, 24, (.slice none 0 0), false⟩
def t39 : TI := ⟨.int .i64, 1, 8, (.int .i64 0), false⟩
def t40 : TI := ⟨.tuple #[38, 39], 1, 0, (.tuple #[(.slice none 0 0), (.int .i64 0)]), false⟩
def t41 : TI := ⟨.func #[24, 3, 3, 3] #[38, 39] false, 1, 8, .nilFunc, false⟩
def t42 : TI := ⟨.func #[24, 3, 3, 3, 38, 39] #[4] false, 1, 8, .nilFunc, false⟩
def t43 : TI := ⟨.func #[24, 3, 3, 3] #[4] false, 1, 8, .nilFunc, false⟩
def t44 : TI := ⟨.slice 24, 1, 24, (.slice none 0 0), false⟩
def t45 : TI := ⟨.struct #[⟨"Funcs", 44, 0, false, "", "", 0⟩], 1, 24, (.agg #[(.slice none 0 0)]), false⟩
def t46 : TI := ⟨.struct #[⟨"Funcs", 44, 0, false, "", "", 0⟩], 1, 24, (.agg #[(.slice none 0 0)]), false⟩
def t47 : TI := ⟨.struct #[⟨"Err", 39, 0, false, "", "", 0⟩, ⟨"Func", 3, 1, false, "", "", 8⟩, ⟨"At", 3, 2, false, "", "", 16⟩], 3, 24, (.agg #[(.int .i64 0), (.int .i64 0), (.int .i64 0)]), true⟩
def t48 : TI := ⟨.struct #[⟨"Err", 39, 0, false, "", "", 0⟩, ⟨"Func", 3, 1, false, "", "", 8⟩, ⟨"At", 3, 2, false, "", "", 16⟩], 3, 24, (.agg #[(.int .i64 0), (.int .i64 0), (.int .i64 0)]), true⟩
def t49 : TI := ⟨.func #[46] #[48] false, 1, 8, .nilFunc, false⟩
def t50 : TI := ⟨.slice 22, 1, 24, (.slice none 0 0), false⟩
def t51 : TI := ⟨.struct #[⟨"p", 46, 0, false, "", "plunder/plunderlaw5", 0⟩, ⟨"funcs", 44, 1, false, "", "plunder/plunderlaw5", 24⟩, ⟨"codes", 50, 2, false, "", "plunder/plunderlaw5", 48⟩], 3, 72, (.agg #[(.slice none 0 0), (.slice none 0 0), (.slice none 0 0)]), false⟩
def t52 : TI := ⟨.struct #[⟨"p", 46, 0, false, "", "plunder/plunderlaw5", 0⟩, ⟨"funcs", 44, 1, false, "", "plunder/plunderlaw5", 24⟩, ⟨"codes", 50, 2, false, "", "plunder/plunderlaw5", 48⟩], 3, 72, (.agg #[(.slice none 0 0), (.slice none 0 0), (.slice none 0 0)]), false⟩
def t53 : TI := ⟨.func #[46] #[52] false, 1, 8, .nilFunc, false⟩
def t54 : TI := ⟨.func #[46] #[4] false, 1, 8, .nilFunc, false⟩
def t55 : TI := ⟨.slice 4, 1, 24, (.slice none 0 0), false⟩
def t56 : TI := ⟨.func #[] #[4] false, 1, 8, .nilFunc, false⟩
def t57 : TI := ⟨.func #[3, 3] #[3] false, 1, 8, .nilFunc, false⟩
def t58 : TI := ⟨.pointer 61, 1, 8, (.pointer none), false⟩
def t59 : TI := ⟨.array 8 3, 8, 64, (.agg #[(.int .i64 0), (.int .i64 0), (.int .i64 0), (.int .i64 0), (.int .i64 0), (.int .i64 0), (.int .i64 0), (.int .i64 0)]), false⟩
def t60 : TI := ⟨.struct #[⟨"At", 3, 0, false, "", "", 0⟩, ⟨"Slots", 59, 1, false, "", "", 8⟩, ⟨"Over", 4, 9, false, "", "", 72⟩], 10, 80, (.agg #[(.int .i64 0), (.int .i64 0), (.int .i64 0), (.int .i64 0), (.int .i64 0), (.int .i64 0), (.int .i64 0), (.int .i64 0), (.int .i64 0), (.bool false)]), false⟩
def t61 : TI := ⟨.struct #[⟨"At", 3, 0, false, "", "", 0⟩, ⟨"Slots", 59, 1, false, "", "", 8⟩, ⟨"Over", 4, 9, false, "", "", 72⟩], 10, 80, (.agg #[(.int .i64 0), (.int .i64 0), (.int .i64 0), (.int .i64 0), (.int .i64 0), (.int .i64 0), (.int .i64 0), (.int .i64 0), (.int .i64 0), (.bool false)]), false⟩
def t62 : TI := ⟨.func #[46, 24, 35] #[4] false, 1, 8, .nilFunc, false⟩
def t63 : TI := ⟨.func #[35] #[4] false, 1, 8, .nilFunc, false⟩
def t64 : TI := ⟨.func #[24, 4] #[] false, 1, 8, .nilFunc, false⟩
def t65 : TI := ⟨.func #[46, 3, 55] #[4] false, 1, 8, .nilFunc, false⟩
def t66 : TI := ⟨.func #[3] #[3] false, 1, 8, .nilFunc, false⟩
def t67 : TI := ⟨.slice 2, 1, 24, (.slice none 0 0), false⟩
def t68 : TI := ⟨.tuple #[67, 39], 1, 0, (.tuple #[(.slice none 0 0), (.int .i64 0)]), false⟩
def t69 : TI := ⟨.func #[46] #[67, 39] false, 1, 8, .nilFunc, false⟩
def t70 : TI := ⟨.func #[67, 67] #[4] false, 1, 8, .nilFunc, false⟩
def t71 : TI := ⟨.func #[46, 24, 38, 3, 3, 3] #[4] false, 1, 8, .nilFunc, false⟩
def t72 : TI := ⟨.func #[46, 3, 3] #[4] false, 1, 8, .nilFunc, false⟩
def t73 : TI := ⟨.tuple #[46, 39], 1, 0, (.tuple #[(.agg #[(.slice none 0 0)]), (.int .i64 0)]), false⟩
def t74 : TI := ⟨.func #[67] #[46, 39] false, 1, 8, .nilFunc, false⟩
def t75 : TI := ⟨.func #[46, 46] #[4] false, 1, 8, .nilFunc, false⟩
def t76 : TI := ⟨.func #[67] #[4] false, 1, 8, .nilFunc, false⟩
def t77 : TI := ⟨.func #[46, 3, 2] #[4] false, 1, 8, .nilFunc, false⟩
def t78 : TI := ⟨.func #[24, 3] #[38] false, 1, 8, .nilFunc, false⟩
def t79 : TI := ⟨.func #[38, 38] #[4] false, 1, 8, .nilFunc, false⟩
def t80 : TI := ⟨.func #[24] #[24] false, 1, 8, .nilFunc, false⟩
def t81 : TI := ⟨.struct #[⟨"at", 3, 0, false, "", "plunder/prog", 0⟩, ⟨"state", 3, 1, false, "", "plunder/prog", 8⟩], 2, 16, (.agg #[(.int .i64 0), (.int .i64 0)]), true⟩
def t82 : TI := ⟨.struct #[⟨"at", 3, 0, false, "", "plunder/prog", 0⟩, ⟨"state", 3, 1, false, "", "plunder/prog", 8⟩], 2, 16, (.agg #[(.int .i64 0), (.int .i64 0)]), true⟩
def t83 : TI := ⟨.map 82 82, 1, 8, (.map none), false⟩
def t84 : TI := ⟨.func #[24, 3, 85] #[83] false, 1, 8, .nilFunc, false⟩
def t85 : TI := ⟨.func #[82] #[4] false, 1, 8, .nilFunc, false⟩
def t86 : TI := ⟨.tuple #[82, 4], 1, 0, (.tuple #[(.agg #[(.int .i64 0), (.int .i64 0)]), (.bool false)]), false⟩
def t87 : TI := ⟨.func #[3, 3] #[4] false, 1, 8, .nilFunc, false⟩
def t88 : TI := ⟨.func #[35, 3, 3] #[3] false, 1, 8, .nilFunc, false⟩
def t89 : TI := ⟨.func #[24, 35] #[4] false, 1, 8, .nilFunc, false⟩
def t90 : TI := ⟨.func #[35, 38] #[39] false, 1, 8, .nilFunc, false⟩
def t91 : TI := ⟨.struct #[⟨"fault", 48, 0, false, "", "plunder/prog", 0⟩], 3, 24, (.agg #[(.int .i64 0), (.int .i64 0), (.int .i64 0)]), true⟩
def t92 : TI := ⟨.struct #[⟨"fault", 48, 0, false, "", "plunder/prog", 0⟩], 3, 24, (.agg #[(.int .i64 0), (.int .i64 0), (.int .i64 0)]), true⟩
def t93 : TI := ⟨.func #[3, 24, 44] #[] false, 1, 8, .nilFunc, false⟩
def t94 : TI := ⟨.func #[3, 24] #[] false, 1, 8, .nilFunc, false⟩
def t95 : TI := ⟨.func #[46] #[46] false, 1, 8, .nilFunc, false⟩
def t96 : TI := ⟨.func #[46, 46] #[] false, 1, 8, .nilFunc, false⟩
def t97 : TI := ⟨.func #[46] #[67] false, 1, 8, .nilFunc, false⟩
def t98 : TI := ⟨.func #[67] #[2] false, 1, 8, .nilFunc, false⟩
def t99 : TI := ⟨.tuple #[46, 4], 1, 0, (.tuple #[(.agg #[(.slice none 0 0)]), (.bool false)]), false⟩
def t100 : TI := ⟨.func #[67] #[46, 4] false, 1, 8, .nilFunc, false⟩
def t101 : TI := ⟨.pointer 103, 1, 8, (.pointer none), false⟩
def t102 : TI := ⟨.struct #[⟨"words", 67, 0, false, "", "plunder/prog", 0⟩, ⟨"short", 4, 1, false, "", "plunder/prog", 24⟩], 2, 32, (.agg #[(.slice none 0 0), (.bool false)]), false⟩
def t103 : TI := ⟨.struct #[⟨"words", 67, 0, false, "", "plunder/prog", 0⟩, ⟨"short", 4, 1, false, "", "plunder/prog", 24⟩], 2, 32, (.agg #[(.slice none 0 0), (.bool false)]), false⟩
def t104 : TI := ⟨.func #[2] #[3] false, 1, 8, .nilFunc, false⟩
def t105 : TI := ⟨.func #[] #[24] false, 1, 8, .nilFunc, false⟩
def t106 : TI := ⟨.func #[35, 24, 44] #[4] false, 1, 8, .nilFunc, false⟩
def t107 : TI := ⟨.slice 82, 1, 24, (.slice none 0 0), false⟩
def t108 : TI := ⟨.func #[] #[2] false, 1, 8, .nilFunc, false⟩
def t109 : TI := ⟨.int .i64, 1, 8, (.int .i64 0), false⟩
def t110 : TI := ⟨.struct #[⟨"a", 109, 0, false, "", "plunder/prog", 0⟩, ⟨"b", 109, 1, false, "", "plunder/prog", 8⟩, ⟨"c", 109, 2, false, "", "plunder/prog", 16⟩, ⟨"k", 109, 3, false, "", "plunder/prog", 24⟩, ⟨"next", 4, 4, false, "", "plunder/prog", 32⟩], 5, 40, (.agg #[(.int .i64 0), (.int .i64 0), (.int .i64 0), (.int .i64 0), (.bool false)]), true⟩
def t111 : TI := ⟨.array 10 110, 50, 400, (.agg #[(.int .i64 0), (.int .i64 0), (.int .i64 0), (.int .i64 0), (.bool false), (.int .i64 0), (.int .i64 0), (.int .i64 0), (.int .i64 0), (.bool false), (.int .i64 0), (.int .i64 0), (.int .i64 0), (.int .i64 0), (.bool false), (.int .i64 0), (.int .i64 0), (.int .i64 0), (.int .i64 0), (.bool false), (.int .i64 0), (.int .i64 0), (.int .i64 0), (.int .i64 0), (.bool false), (.int .i64 0), (.int .i64 0), (.int .i64 0), (.int .i64 0), (.bool false), (.int .i64 0), (.int .i64 0), (.int .i64 0), (.int .i64 0), (.bool false), (.int .i64 0), (.int .i64 0), (.int .i64 0), (.int .i64 0), (.bool false), (.int .i64 0), (.int .i64 0), (.int .i64 0), (.int .i64 0), (.bool false), (.int .i64 0), (.int .i64 0), (.int .i64 0), (.int .i64 0), (.bool false)]), false⟩
def t112 : TI := ⟨.func #[109, 3, 24, 3] #[4] false, 1, 8, .nilFunc, false⟩
def t113 : TI := ⟨.func #[] #[9] false, 1, 8, .nilFunc, false⟩
def t119 : TI := ⟨.func #[] #[3] false, 1, 8, .nilFunc, false⟩
def t120 : TI := ⟨.int .u32, 1, 4, (.int .u32 0), false⟩
def t123 : TI := ⟨.func #[129, 129] #[4] false, 1, 8, .nilFunc, false⟩
def t124 : TI := ⟨.pointer 5, 1, 8, (.pointer none), false⟩
theorem o0 : Tryd.prog.underlying 0 = some t0.desc ∧ (Tryd.prog.info? 0).map (fun j => (j.zero, j.size, j.bytes)) = some (some t0.zero, t0.size, t0.bytes) ∧ (t0.flat = true → FlatOk Tryd.prog 0 t0) := ⟨by kernel_rfl, by kernel_rfl, fun h => absurd h (by decide)⟩
theorem o1 : Tryd.prog.underlying 1 = some t1.desc ∧ (Tryd.prog.info? 1).map (fun j => (j.zero, j.size, j.bytes)) = some (some t1.zero, t1.size, t1.bytes) ∧ (t1.flat = true → FlatOk Tryd.prog 1 t1) := ⟨by kernel_rfl, by kernel_rfl, fun h => absurd h (by decide)⟩
theorem o2 : Tryd.prog.underlying 2 = some t2.desc ∧ (Tryd.prog.info? 2).map (fun j => (j.zero, j.size, j.bytes)) = some (some t2.zero, t2.size, t2.bytes) ∧ (t2.flat = true → FlatOk Tryd.prog 2 t2) := ⟨by kernel_rfl, by kernel_rfl, fun h => absurd h (by decide)⟩
theorem o3 : Tryd.prog.underlying 3 = some t3.desc ∧ (Tryd.prog.info? 3).map (fun j => (j.zero, j.size, j.bytes)) = some (some t3.zero, t3.size, t3.bytes) ∧ (t3.flat = true → FlatOk Tryd.prog 3 t3) := ⟨by kernel_rfl, by kernel_rfl, fun h => absurd h (by decide)⟩
theorem o4 : Tryd.prog.underlying 4 = some t4.desc ∧ (Tryd.prog.info? 4).map (fun j => (j.zero, j.size, j.bytes)) = some (some t4.zero, t4.size, t4.bytes) ∧ (t4.flat = true → FlatOk Tryd.prog 4 t4) := ⟨by kernel_rfl, by kernel_rfl, fun h => absurd h (by decide)⟩
theorem o5 : Tryd.prog.underlying 5 = some t5.desc ∧ (Tryd.prog.info? 5).map (fun j => (j.zero, j.size, j.bytes)) = some (some t5.zero, t5.size, t5.bytes) ∧ (t5.flat = true → FlatOk Tryd.prog 5 t5) := ⟨by kernel_rfl, by kernel_rfl, fun h => absurd h (by decide)⟩
theorem o9 : Tryd.prog.underlying 9 = some t9.desc ∧ (Tryd.prog.info? 9).map (fun j => (j.zero, j.size, j.bytes)) = some (some t9.zero, t9.size, t9.bytes) ∧ (t9.flat = true → FlatOk Tryd.prog 9 t9) := ⟨by kernel_rfl, by kernel_rfl, fun h => absurd h (by decide)⟩
theorem o12 : Tryd.prog.underlying 12 = some t12.desc ∧ (Tryd.prog.info? 12).map (fun j => (j.zero, j.size, j.bytes)) = some (some t12.zero, t12.size, t12.bytes) ∧ (t12.flat = true → FlatOk Tryd.prog 12 t12) := ⟨by kernel_rfl, by kernel_rfl, fun h => absurd h (by decide)⟩
theorem o13 : Tryd.prog.underlying 13 = some t13.desc ∧ (Tryd.prog.info? 13).map (fun j => (j.zero, j.size, j.bytes)) = some (some t13.zero, t13.size, t13.bytes) ∧ (t13.flat = true → FlatOk Tryd.prog 13 t13) := ⟨by kernel_rfl, by kernel_rfl, fun h => absurd h (by decide)⟩
theorem o20 : Tryd.prog.underlying 20 = some t20.desc ∧ (Tryd.prog.info? 20).map (fun j => (j.zero, j.size, j.bytes)) = some (some t20.zero, t20.size, t20.bytes) ∧ (t20.flat = true → FlatOk Tryd.prog 20 t20) := ⟨by kernel_rfl, by kernel_rfl, fun h => absurd h (by decide)⟩
theorem o21 : Tryd.prog.underlying 21 = some t21.desc ∧ (Tryd.prog.info? 21).map (fun j => (j.zero, j.size, j.bytes)) = some (some t21.zero, t21.size, t21.bytes) ∧ (t21.flat = true → FlatOk Tryd.prog 21 t21) := ⟨by kernel_rfl, by kernel_rfl, fun h => absurd h (by decide)⟩
theorem o22 : Tryd.prog.underlying 22 = some t22.desc ∧ (Tryd.prog.info? 22).map (fun j => (j.zero, j.size, j.bytes)) = some (some t22.zero, t22.size, t22.bytes) ∧ (t22.flat = true → FlatOk Tryd.prog 22 t22) := ⟨by kernel_rfl, by kernel_rfl, fun h => absurd h (by decide)⟩
theorem o23 : Tryd.prog.underlying 23 = some t23.desc ∧ (Tryd.prog.info? 23).map (fun j => (j.zero, j.size, j.bytes)) = some (some t23.zero, t23.size, t23.bytes) ∧ (t23.flat = true → FlatOk Tryd.prog 23 t23) := ⟨by kernel_rfl, by kernel_rfl, fun h => absurd h (by decide)⟩
theorem o24 : Tryd.prog.underlying 24 = some t24.desc ∧ (Tryd.prog.info? 24).map (fun j => (j.zero, j.size, j.bytes)) = some (some t24.zero, t24.size, t24.bytes) ∧ (t24.flat = true → FlatOk Tryd.prog 24 t24) := ⟨by kernel_rfl, by kernel_rfl, fun h => absurd h (by decide)⟩
theorem o25 : Tryd.prog.underlying 25 = some t25.desc ∧ (Tryd.prog.info? 25).map (fun j => (j.zero, j.size, j.bytes)) = some (some t25.zero, t25.size, t25.bytes) ∧ (t25.flat = true → FlatOk Tryd.prog 25 t25) := ⟨by kernel_rfl, by kernel_rfl, fun h => absurd h (by decide)⟩
theorem o26 : Tryd.prog.underlying 26 = some t26.desc ∧ (Tryd.prog.info? 26).map (fun j => (j.zero, j.size, j.bytes)) = some (some t26.zero, t26.size, t26.bytes) ∧ (t26.flat = true → FlatOk Tryd.prog 26 t26) := ⟨by kernel_rfl, by kernel_rfl, fun h => absurd h (by decide)⟩
theorem o27 : Tryd.prog.underlying 27 = some t27.desc ∧ (Tryd.prog.info? 27).map (fun j => (j.zero, j.size, j.bytes)) = some (some t27.zero, t27.size, t27.bytes) ∧ (t27.flat = true → FlatOk Tryd.prog 27 t27) := ⟨by kernel_rfl, by kernel_rfl, fun h => absurd h (by decide)⟩
theorem o28 : Tryd.prog.underlying 28 = some t28.desc ∧ (Tryd.prog.info? 28).map (fun j => (j.zero, j.size, j.bytes)) = some (some t28.zero, t28.size, t28.bytes) ∧ (t28.flat = true → FlatOk Tryd.prog 28 t28) := ⟨by kernel_rfl, by kernel_rfl, fun h => absurd h (by decide)⟩
theorem o29 : Tryd.prog.underlying 29 = some t29.desc ∧ (Tryd.prog.info? 29).map (fun j => (j.zero, j.size, j.bytes)) = some (some t29.zero, t29.size, t29.bytes) ∧ (t29.flat = true → FlatOk Tryd.prog 29 t29) := ⟨by kernel_rfl, by kernel_rfl, fun h => absurd h (by decide)⟩
theorem o30 : Tryd.prog.underlying 30 = some t30.desc ∧ (Tryd.prog.info? 30).map (fun j => (j.zero, j.size, j.bytes)) = some (some t30.zero, t30.size, t30.bytes) ∧ (t30.flat = true → FlatOk Tryd.prog 30 t30) := ⟨by kernel_rfl, by kernel_rfl, fun h => absurd h (by decide)⟩
theorem o31 : Tryd.prog.underlying 31 = some t31.desc ∧ (Tryd.prog.info? 31).map (fun j => (j.zero, j.size, j.bytes)) = some (some t31.zero, t31.size, t31.bytes) ∧ (t31.flat = true → FlatOk Tryd.prog 31 t31) := ⟨by kernel_rfl, by kernel_rfl, fun h => absurd h (by decide)⟩
theorem o32 : Tryd.prog.underlying 32 = some t32.desc ∧ (Tryd.prog.info? 32).map (fun j => (j.zero, j.size, j.bytes)) = some (some t32.zero, t32.size, t32.bytes) ∧ (t32.flat = true → FlatOk Tryd.prog 32 t32) := ⟨by kernel_rfl, by kernel_rfl, fun h => absurd h (by decide)⟩
theorem o33 : Tryd.prog.underlying 33 = some t33.desc ∧ (Tryd.prog.info? 33).map (fun j => (j.zero, j.size, j.bytes)) = some (some t33.zero, t33.size, t33.bytes) ∧ (t33.flat = true → FlatOk Tryd.prog 33 t33) := ⟨by kernel_rfl, by kernel_rfl, fun h => absurd h (by decide)⟩
theorem o34 : Tryd.prog.underlying 34 = some t34.desc ∧ (Tryd.prog.info? 34).map (fun j => (j.zero, j.size, j.bytes)) = some (some t34.zero, t34.size, t34.bytes) ∧ (t34.flat = true → FlatOk Tryd.prog 34 t34) := ⟨by kernel_rfl, by kernel_rfl, fun _ => ⟨by kernel_rfl, by kernel_rfl, by kernel_rfl⟩⟩
theorem o35 : Tryd.prog.underlying 35 = some t35.desc ∧ (Tryd.prog.info? 35).map (fun j => (j.zero, j.size, j.bytes)) = some (some t35.zero, t35.size, t35.bytes) ∧ (t35.flat = true → FlatOk Tryd.prog 35 t35) := ⟨by kernel_rfl, by kernel_rfl, fun _ => ⟨by kernel_rfl, by kernel_rfl, by kernel_rfl⟩⟩
theorem o36 : Tryd.prog.underlying 36 = some t36.desc ∧ (Tryd.prog.info? 36).map (fun j => (j.zero, j.size, j.bytes)) = some (some t36.zero, t36.size, t36.bytes) ∧ (t36.flat = true → FlatOk Tryd.prog 36 t36) := ⟨by kernel_rfl, by kernel_rfl, fun h => absurd h (by decide)⟩
theorem o37 : Tryd.prog.underlying 37 = some t37.desc ∧ (Tryd.prog.info? 37).map (fun j => (j.zero, j.size, j.bytes)) = some (some t37.zero, t37.size, t37.bytes) ∧ (t37.flat = true → FlatOk Tryd.prog 37 t37) := ⟨by kernel_rfl, by kernel_rfl, fun h => absurd h (by decide)⟩
theorem o38 : Tryd.prog.underlying 38 = some t38.desc ∧ (Tryd.prog.info? 38).map (fun j => (j.zero, j.size, j.bytes)) = some (some t38.zero, t38.size, t38.bytes) ∧ (t38.flat = true → FlatOk Tryd.prog 38 t38) := ⟨by kernel_rfl, by kernel_rfl, fun h => absurd h (by decide)⟩
theorem o39 : Tryd.prog.underlying 39 = some t39.desc ∧ (Tryd.prog.info? 39).map (fun j => (j.zero, j.size, j.bytes)) = some (some t39.zero, t39.size, t39.bytes) ∧ (t39.flat = true → FlatOk Tryd.prog 39 t39) := ⟨by kernel_rfl, by kernel_rfl, fun h => absurd h (by decide)⟩
theorem o40 : Tryd.prog.underlying 40 = some t40.desc ∧ (Tryd.prog.info? 40).map (fun j => (j.zero, j.size, j.bytes)) = some (some t40.zero, t40.size, t40.bytes) ∧ (t40.flat = true → FlatOk Tryd.prog 40 t40) := ⟨by kernel_rfl, by kernel_rfl, fun h => absurd h (by decide)⟩
theorem o41 : Tryd.prog.underlying 41 = some t41.desc ∧ (Tryd.prog.info? 41).map (fun j => (j.zero, j.size, j.bytes)) = some (some t41.zero, t41.size, t41.bytes) ∧ (t41.flat = true → FlatOk Tryd.prog 41 t41) := ⟨by kernel_rfl, by kernel_rfl, fun h => absurd h (by decide)⟩
theorem o42 : Tryd.prog.underlying 42 = some t42.desc ∧ (Tryd.prog.info? 42).map (fun j => (j.zero, j.size, j.bytes)) = some (some t42.zero, t42.size, t42.bytes) ∧ (t42.flat = true → FlatOk Tryd.prog 42 t42) := ⟨by kernel_rfl, by kernel_rfl, fun h => absurd h (by decide)⟩
theorem o43 : Tryd.prog.underlying 43 = some t43.desc ∧ (Tryd.prog.info? 43).map (fun j => (j.zero, j.size, j.bytes)) = some (some t43.zero, t43.size, t43.bytes) ∧ (t43.flat = true → FlatOk Tryd.prog 43 t43) := ⟨by kernel_rfl, by kernel_rfl, fun h => absurd h (by decide)⟩
theorem o44 : Tryd.prog.underlying 44 = some t44.desc ∧ (Tryd.prog.info? 44).map (fun j => (j.zero, j.size, j.bytes)) = some (some t44.zero, t44.size, t44.bytes) ∧ (t44.flat = true → FlatOk Tryd.prog 44 t44) := ⟨by kernel_rfl, by kernel_rfl, fun h => absurd h (by decide)⟩
theorem o45 : Tryd.prog.underlying 45 = some t45.desc ∧ (Tryd.prog.info? 45).map (fun j => (j.zero, j.size, j.bytes)) = some (some t45.zero, t45.size, t45.bytes) ∧ (t45.flat = true → FlatOk Tryd.prog 45 t45) := ⟨by kernel_rfl, by kernel_rfl, fun h => absurd h (by decide)⟩
theorem o46 : Tryd.prog.underlying 46 = some t46.desc ∧ (Tryd.prog.info? 46).map (fun j => (j.zero, j.size, j.bytes)) = some (some t46.zero, t46.size, t46.bytes) ∧ (t46.flat = true → FlatOk Tryd.prog 46 t46) := ⟨by kernel_rfl, by kernel_rfl, fun h => absurd h (by decide)⟩
theorem o47 : Tryd.prog.underlying 47 = some t47.desc ∧ (Tryd.prog.info? 47).map (fun j => (j.zero, j.size, j.bytes)) = some (some t47.zero, t47.size, t47.bytes) ∧ (t47.flat = true → FlatOk Tryd.prog 47 t47) := ⟨by kernel_rfl, by kernel_rfl, fun _ => ⟨by kernel_rfl, by kernel_rfl, by kernel_rfl⟩⟩
theorem o48 : Tryd.prog.underlying 48 = some t48.desc ∧ (Tryd.prog.info? 48).map (fun j => (j.zero, j.size, j.bytes)) = some (some t48.zero, t48.size, t48.bytes) ∧ (t48.flat = true → FlatOk Tryd.prog 48 t48) := ⟨by kernel_rfl, by kernel_rfl, fun _ => ⟨by kernel_rfl, by kernel_rfl, by kernel_rfl⟩⟩
theorem o49 : Tryd.prog.underlying 49 = some t49.desc ∧ (Tryd.prog.info? 49).map (fun j => (j.zero, j.size, j.bytes)) = some (some t49.zero, t49.size, t49.bytes) ∧ (t49.flat = true → FlatOk Tryd.prog 49 t49) := ⟨by kernel_rfl, by kernel_rfl, fun h => absurd h (by decide)⟩
theorem o50 : Tryd.prog.underlying 50 = some t50.desc ∧ (Tryd.prog.info? 50).map (fun j => (j.zero, j.size, j.bytes)) = some (some t50.zero, t50.size, t50.bytes) ∧ (t50.flat = true → FlatOk Tryd.prog 50 t50) := ⟨by kernel_rfl, by kernel_rfl, fun h => absurd h (by decide)⟩
theorem o51 : Tryd.prog.underlying 51 = some t51.desc ∧ (Tryd.prog.info? 51).map (fun j => (j.zero, j.size, j.bytes)) = some (some t51.zero, t51.size, t51.bytes) ∧ (t51.flat = true → FlatOk Tryd.prog 51 t51) := ⟨by kernel_rfl, by kernel_rfl, fun h => absurd h (by decide)⟩
theorem o52 : Tryd.prog.underlying 52 = some t52.desc ∧ (Tryd.prog.info? 52).map (fun j => (j.zero, j.size, j.bytes)) = some (some t52.zero, t52.size, t52.bytes) ∧ (t52.flat = true → FlatOk Tryd.prog 52 t52) := ⟨by kernel_rfl, by kernel_rfl, fun h => absurd h (by decide)⟩
theorem o53 : Tryd.prog.underlying 53 = some t53.desc ∧ (Tryd.prog.info? 53).map (fun j => (j.zero, j.size, j.bytes)) = some (some t53.zero, t53.size, t53.bytes) ∧ (t53.flat = true → FlatOk Tryd.prog 53 t53) := ⟨by kernel_rfl, by kernel_rfl, fun h => absurd h (by decide)⟩
theorem o54 : Tryd.prog.underlying 54 = some t54.desc ∧ (Tryd.prog.info? 54).map (fun j => (j.zero, j.size, j.bytes)) = some (some t54.zero, t54.size, t54.bytes) ∧ (t54.flat = true → FlatOk Tryd.prog 54 t54) := ⟨by kernel_rfl, by kernel_rfl, fun h => absurd h (by decide)⟩
theorem o55 : Tryd.prog.underlying 55 = some t55.desc ∧ (Tryd.prog.info? 55).map (fun j => (j.zero, j.size, j.bytes)) = some (some t55.zero, t55.size, t55.bytes) ∧ (t55.flat = true → FlatOk Tryd.prog 55 t55) := ⟨by kernel_rfl, by kernel_rfl, fun h => absurd h (by decide)⟩
theorem o56 : Tryd.prog.underlying 56 = some t56.desc ∧ (Tryd.prog.info? 56).map (fun j => (j.zero, j.size, j.bytes)) = some (some t56.zero, t56.size, t56.bytes) ∧ (t56.flat = true → FlatOk Tryd.prog 56 t56) := ⟨by kernel_rfl, by kernel_rfl, fun h => absurd h (by decide)⟩
theorem o57 : Tryd.prog.underlying 57 = some t57.desc ∧ (Tryd.prog.info? 57).map (fun j => (j.zero, j.size, j.bytes)) = some (some t57.zero, t57.size, t57.bytes) ∧ (t57.flat = true → FlatOk Tryd.prog 57 t57) := ⟨by kernel_rfl, by kernel_rfl, fun h => absurd h (by decide)⟩
theorem o58 : Tryd.prog.underlying 58 = some t58.desc ∧ (Tryd.prog.info? 58).map (fun j => (j.zero, j.size, j.bytes)) = some (some t58.zero, t58.size, t58.bytes) ∧ (t58.flat = true → FlatOk Tryd.prog 58 t58) := ⟨by kernel_rfl, by kernel_rfl, fun h => absurd h (by decide)⟩
theorem o59 : Tryd.prog.underlying 59 = some t59.desc ∧ (Tryd.prog.info? 59).map (fun j => (j.zero, j.size, j.bytes)) = some (some t59.zero, t59.size, t59.bytes) ∧ (t59.flat = true → FlatOk Tryd.prog 59 t59) := ⟨by kernel_rfl, by kernel_rfl, fun h => absurd h (by decide)⟩
theorem o60 : Tryd.prog.underlying 60 = some t60.desc ∧ (Tryd.prog.info? 60).map (fun j => (j.zero, j.size, j.bytes)) = some (some t60.zero, t60.size, t60.bytes) ∧ (t60.flat = true → FlatOk Tryd.prog 60 t60) := ⟨by kernel_rfl, by kernel_rfl, fun h => absurd h (by decide)⟩
theorem o61 : Tryd.prog.underlying 61 = some t61.desc ∧ (Tryd.prog.info? 61).map (fun j => (j.zero, j.size, j.bytes)) = some (some t61.zero, t61.size, t61.bytes) ∧ (t61.flat = true → FlatOk Tryd.prog 61 t61) := ⟨by kernel_rfl, by kernel_rfl, fun h => absurd h (by decide)⟩
theorem o62 : Tryd.prog.underlying 62 = some t62.desc ∧ (Tryd.prog.info? 62).map (fun j => (j.zero, j.size, j.bytes)) = some (some t62.zero, t62.size, t62.bytes) ∧ (t62.flat = true → FlatOk Tryd.prog 62 t62) := ⟨by kernel_rfl, by kernel_rfl, fun h => absurd h (by decide)⟩
theorem o63 : Tryd.prog.underlying 63 = some t63.desc ∧ (Tryd.prog.info? 63).map (fun j => (j.zero, j.size, j.bytes)) = some (some t63.zero, t63.size, t63.bytes) ∧ (t63.flat = true → FlatOk Tryd.prog 63 t63) := ⟨by kernel_rfl, by kernel_rfl, fun h => absurd h (by decide)⟩
theorem o64 : Tryd.prog.underlying 64 = some t64.desc ∧ (Tryd.prog.info? 64).map (fun j => (j.zero, j.size, j.bytes)) = some (some t64.zero, t64.size, t64.bytes) ∧ (t64.flat = true → FlatOk Tryd.prog 64 t64) := ⟨by kernel_rfl, by kernel_rfl, fun h => absurd h (by decide)⟩
theorem o65 : Tryd.prog.underlying 65 = some t65.desc ∧ (Tryd.prog.info? 65).map (fun j => (j.zero, j.size, j.bytes)) = some (some t65.zero, t65.size, t65.bytes) ∧ (t65.flat = true → FlatOk Tryd.prog 65 t65) := ⟨by kernel_rfl, by kernel_rfl, fun h => absurd h (by decide)⟩
theorem o66 : Tryd.prog.underlying 66 = some t66.desc ∧ (Tryd.prog.info? 66).map (fun j => (j.zero, j.size, j.bytes)) = some (some t66.zero, t66.size, t66.bytes) ∧ (t66.flat = true → FlatOk Tryd.prog 66 t66) := ⟨by kernel_rfl, by kernel_rfl, fun h => absurd h (by decide)⟩
theorem o67 : Tryd.prog.underlying 67 = some t67.desc ∧ (Tryd.prog.info? 67).map (fun j => (j.zero, j.size, j.bytes)) = some (some t67.zero, t67.size, t67.bytes) ∧ (t67.flat = true → FlatOk Tryd.prog 67 t67) := ⟨by kernel_rfl, by kernel_rfl, fun h => absurd h (by decide)⟩
theorem o68 : Tryd.prog.underlying 68 = some t68.desc ∧ (Tryd.prog.info? 68).map (fun j => (j.zero, j.size, j.bytes)) = some (some t68.zero, t68.size, t68.bytes) ∧ (t68.flat = true → FlatOk Tryd.prog 68 t68) := ⟨by kernel_rfl, by kernel_rfl, fun h => absurd h (by decide)⟩
theorem o69 : Tryd.prog.underlying 69 = some t69.desc ∧ (Tryd.prog.info? 69).map (fun j => (j.zero, j.size, j.bytes)) = some (some t69.zero, t69.size, t69.bytes) ∧ (t69.flat = true → FlatOk Tryd.prog 69 t69) := ⟨by kernel_rfl, by kernel_rfl, fun h => absurd h (by decide)⟩
theorem o70 : Tryd.prog.underlying 70 = some t70.desc ∧ (Tryd.prog.info? 70).map (fun j => (j.zero, j.size, j.bytes)) = some (some t70.zero, t70.size, t70.bytes) ∧ (t70.flat = true → FlatOk Tryd.prog 70 t70) := ⟨by kernel_rfl, by kernel_rfl, fun h => absurd h (by decide)⟩
theorem o71 : Tryd.prog.underlying 71 = some t71.desc ∧ (Tryd.prog.info? 71).map (fun j => (j.zero, j.size, j.bytes)) = some (some t71.zero, t71.size, t71.bytes) ∧ (t71.flat = true → FlatOk Tryd.prog 71 t71) := ⟨by kernel_rfl, by kernel_rfl, fun h => absurd h (by decide)⟩
theorem o72 : Tryd.prog.underlying 72 = some t72.desc ∧ (Tryd.prog.info? 72).map (fun j => (j.zero, j.size, j.bytes)) = some (some t72.zero, t72.size, t72.bytes) ∧ (t72.flat = true → FlatOk Tryd.prog 72 t72) := ⟨by kernel_rfl, by kernel_rfl, fun h => absurd h (by decide)⟩
theorem o73 : Tryd.prog.underlying 73 = some t73.desc ∧ (Tryd.prog.info? 73).map (fun j => (j.zero, j.size, j.bytes)) = some (some t73.zero, t73.size, t73.bytes) ∧ (t73.flat = true → FlatOk Tryd.prog 73 t73) := ⟨by kernel_rfl, by kernel_rfl, fun h => absurd h (by decide)⟩
theorem o74 : Tryd.prog.underlying 74 = some t74.desc ∧ (Tryd.prog.info? 74).map (fun j => (j.zero, j.size, j.bytes)) = some (some t74.zero, t74.size, t74.bytes) ∧ (t74.flat = true → FlatOk Tryd.prog 74 t74) := ⟨by kernel_rfl, by kernel_rfl, fun h => absurd h (by decide)⟩
theorem o75 : Tryd.prog.underlying 75 = some t75.desc ∧ (Tryd.prog.info? 75).map (fun j => (j.zero, j.size, j.bytes)) = some (some t75.zero, t75.size, t75.bytes) ∧ (t75.flat = true → FlatOk Tryd.prog 75 t75) := ⟨by kernel_rfl, by kernel_rfl, fun h => absurd h (by decide)⟩
theorem o76 : Tryd.prog.underlying 76 = some t76.desc ∧ (Tryd.prog.info? 76).map (fun j => (j.zero, j.size, j.bytes)) = some (some t76.zero, t76.size, t76.bytes) ∧ (t76.flat = true → FlatOk Tryd.prog 76 t76) := ⟨by kernel_rfl, by kernel_rfl, fun h => absurd h (by decide)⟩
theorem o77 : Tryd.prog.underlying 77 = some t77.desc ∧ (Tryd.prog.info? 77).map (fun j => (j.zero, j.size, j.bytes)) = some (some t77.zero, t77.size, t77.bytes) ∧ (t77.flat = true → FlatOk Tryd.prog 77 t77) := ⟨by kernel_rfl, by kernel_rfl, fun h => absurd h (by decide)⟩
theorem o78 : Tryd.prog.underlying 78 = some t78.desc ∧ (Tryd.prog.info? 78).map (fun j => (j.zero, j.size, j.bytes)) = some (some t78.zero, t78.size, t78.bytes) ∧ (t78.flat = true → FlatOk Tryd.prog 78 t78) := ⟨by kernel_rfl, by kernel_rfl, fun h => absurd h (by decide)⟩
theorem o79 : Tryd.prog.underlying 79 = some t79.desc ∧ (Tryd.prog.info? 79).map (fun j => (j.zero, j.size, j.bytes)) = some (some t79.zero, t79.size, t79.bytes) ∧ (t79.flat = true → FlatOk Tryd.prog 79 t79) := ⟨by kernel_rfl, by kernel_rfl, fun h => absurd h (by decide)⟩
theorem o80 : Tryd.prog.underlying 80 = some t80.desc ∧ (Tryd.prog.info? 80).map (fun j => (j.zero, j.size, j.bytes)) = some (some t80.zero, t80.size, t80.bytes) ∧ (t80.flat = true → FlatOk Tryd.prog 80 t80) := ⟨by kernel_rfl, by kernel_rfl, fun h => absurd h (by decide)⟩
theorem o81 : Tryd.prog.underlying 81 = some t81.desc ∧ (Tryd.prog.info? 81).map (fun j => (j.zero, j.size, j.bytes)) = some (some t81.zero, t81.size, t81.bytes) ∧ (t81.flat = true → FlatOk Tryd.prog 81 t81) := ⟨by kernel_rfl, by kernel_rfl, fun _ => ⟨by kernel_rfl, by kernel_rfl, by kernel_rfl⟩⟩
theorem o82 : Tryd.prog.underlying 82 = some t82.desc ∧ (Tryd.prog.info? 82).map (fun j => (j.zero, j.size, j.bytes)) = some (some t82.zero, t82.size, t82.bytes) ∧ (t82.flat = true → FlatOk Tryd.prog 82 t82) := ⟨by kernel_rfl, by kernel_rfl, fun _ => ⟨by kernel_rfl, by kernel_rfl, by kernel_rfl⟩⟩
theorem o83 : Tryd.prog.underlying 83 = some t83.desc ∧ (Tryd.prog.info? 83).map (fun j => (j.zero, j.size, j.bytes)) = some (some t83.zero, t83.size, t83.bytes) ∧ (t83.flat = true → FlatOk Tryd.prog 83 t83) := ⟨by kernel_rfl, by kernel_rfl, fun h => absurd h (by decide)⟩
theorem o84 : Tryd.prog.underlying 84 = some t84.desc ∧ (Tryd.prog.info? 84).map (fun j => (j.zero, j.size, j.bytes)) = some (some t84.zero, t84.size, t84.bytes) ∧ (t84.flat = true → FlatOk Tryd.prog 84 t84) := ⟨by kernel_rfl, by kernel_rfl, fun h => absurd h (by decide)⟩
theorem o85 : Tryd.prog.underlying 85 = some t85.desc ∧ (Tryd.prog.info? 85).map (fun j => (j.zero, j.size, j.bytes)) = some (some t85.zero, t85.size, t85.bytes) ∧ (t85.flat = true → FlatOk Tryd.prog 85 t85) := ⟨by kernel_rfl, by kernel_rfl, fun h => absurd h (by decide)⟩
theorem o86 : Tryd.prog.underlying 86 = some t86.desc ∧ (Tryd.prog.info? 86).map (fun j => (j.zero, j.size, j.bytes)) = some (some t86.zero, t86.size, t86.bytes) ∧ (t86.flat = true → FlatOk Tryd.prog 86 t86) := ⟨by kernel_rfl, by kernel_rfl, fun h => absurd h (by decide)⟩
theorem o87 : Tryd.prog.underlying 87 = some t87.desc ∧ (Tryd.prog.info? 87).map (fun j => (j.zero, j.size, j.bytes)) = some (some t87.zero, t87.size, t87.bytes) ∧ (t87.flat = true → FlatOk Tryd.prog 87 t87) := ⟨by kernel_rfl, by kernel_rfl, fun h => absurd h (by decide)⟩
theorem o88 : Tryd.prog.underlying 88 = some t88.desc ∧ (Tryd.prog.info? 88).map (fun j => (j.zero, j.size, j.bytes)) = some (some t88.zero, t88.size, t88.bytes) ∧ (t88.flat = true → FlatOk Tryd.prog 88 t88) := ⟨by kernel_rfl, by kernel_rfl, fun h => absurd h (by decide)⟩
theorem o89 : Tryd.prog.underlying 89 = some t89.desc ∧ (Tryd.prog.info? 89).map (fun j => (j.zero, j.size, j.bytes)) = some (some t89.zero, t89.size, t89.bytes) ∧ (t89.flat = true → FlatOk Tryd.prog 89 t89) := ⟨by kernel_rfl, by kernel_rfl, fun h => absurd h (by decide)⟩
theorem o90 : Tryd.prog.underlying 90 = some t90.desc ∧ (Tryd.prog.info? 90).map (fun j => (j.zero, j.size, j.bytes)) = some (some t90.zero, t90.size, t90.bytes) ∧ (t90.flat = true → FlatOk Tryd.prog 90 t90) := ⟨by kernel_rfl, by kernel_rfl, fun h => absurd h (by decide)⟩
theorem o91 : Tryd.prog.underlying 91 = some t91.desc ∧ (Tryd.prog.info? 91).map (fun j => (j.zero, j.size, j.bytes)) = some (some t91.zero, t91.size, t91.bytes) ∧ (t91.flat = true → FlatOk Tryd.prog 91 t91) := ⟨by kernel_rfl, by kernel_rfl, fun _ => ⟨by kernel_rfl, by kernel_rfl, by kernel_rfl⟩⟩
theorem o92 : Tryd.prog.underlying 92 = some t92.desc ∧ (Tryd.prog.info? 92).map (fun j => (j.zero, j.size, j.bytes)) = some (some t92.zero, t92.size, t92.bytes) ∧ (t92.flat = true → FlatOk Tryd.prog 92 t92) := ⟨by kernel_rfl, by kernel_rfl, fun _ => ⟨by kernel_rfl, by kernel_rfl, by kernel_rfl⟩⟩
theorem o93 : Tryd.prog.underlying 93 = some t93.desc ∧ (Tryd.prog.info? 93).map (fun j => (j.zero, j.size, j.bytes)) = some (some t93.zero, t93.size, t93.bytes) ∧ (t93.flat = true → FlatOk Tryd.prog 93 t93) := ⟨by kernel_rfl, by kernel_rfl, fun h => absurd h (by decide)⟩
theorem o94 : Tryd.prog.underlying 94 = some t94.desc ∧ (Tryd.prog.info? 94).map (fun j => (j.zero, j.size, j.bytes)) = some (some t94.zero, t94.size, t94.bytes) ∧ (t94.flat = true → FlatOk Tryd.prog 94 t94) := ⟨by kernel_rfl, by kernel_rfl, fun h => absurd h (by decide)⟩
theorem o95 : Tryd.prog.underlying 95 = some t95.desc ∧ (Tryd.prog.info? 95).map (fun j => (j.zero, j.size, j.bytes)) = some (some t95.zero, t95.size, t95.bytes) ∧ (t95.flat = true → FlatOk Tryd.prog 95 t95) := ⟨by kernel_rfl, by kernel_rfl, fun h => absurd h (by decide)⟩
theorem o96 : Tryd.prog.underlying 96 = some t96.desc ∧ (Tryd.prog.info? 96).map (fun j => (j.zero, j.size, j.bytes)) = some (some t96.zero, t96.size, t96.bytes) ∧ (t96.flat = true → FlatOk Tryd.prog 96 t96) := ⟨by kernel_rfl, by kernel_rfl, fun h => absurd h (by decide)⟩
theorem o97 : Tryd.prog.underlying 97 = some t97.desc ∧ (Tryd.prog.info? 97).map (fun j => (j.zero, j.size, j.bytes)) = some (some t97.zero, t97.size, t97.bytes) ∧ (t97.flat = true → FlatOk Tryd.prog 97 t97) := ⟨by kernel_rfl, by kernel_rfl, fun h => absurd h (by decide)⟩
theorem o98 : Tryd.prog.underlying 98 = some t98.desc ∧ (Tryd.prog.info? 98).map (fun j => (j.zero, j.size, j.bytes)) = some (some t98.zero, t98.size, t98.bytes) ∧ (t98.flat = true → FlatOk Tryd.prog 98 t98) := ⟨by kernel_rfl, by kernel_rfl, fun h => absurd h (by decide)⟩
theorem o99 : Tryd.prog.underlying 99 = some t99.desc ∧ (Tryd.prog.info? 99).map (fun j => (j.zero, j.size, j.bytes)) = some (some t99.zero, t99.size, t99.bytes) ∧ (t99.flat = true → FlatOk Tryd.prog 99 t99) := ⟨by kernel_rfl, by kernel_rfl, fun h => absurd h (by decide)⟩
theorem o100 : Tryd.prog.underlying 100 = some t100.desc ∧ (Tryd.prog.info? 100).map (fun j => (j.zero, j.size, j.bytes)) = some (some t100.zero, t100.size, t100.bytes) ∧ (t100.flat = true → FlatOk Tryd.prog 100 t100) := ⟨by kernel_rfl, by kernel_rfl, fun h => absurd h (by decide)⟩
theorem o101 : Tryd.prog.underlying 101 = some t101.desc ∧ (Tryd.prog.info? 101).map (fun j => (j.zero, j.size, j.bytes)) = some (some t101.zero, t101.size, t101.bytes) ∧ (t101.flat = true → FlatOk Tryd.prog 101 t101) := ⟨by kernel_rfl, by kernel_rfl, fun h => absurd h (by decide)⟩
theorem o102 : Tryd.prog.underlying 102 = some t102.desc ∧ (Tryd.prog.info? 102).map (fun j => (j.zero, j.size, j.bytes)) = some (some t102.zero, t102.size, t102.bytes) ∧ (t102.flat = true → FlatOk Tryd.prog 102 t102) := ⟨by kernel_rfl, by kernel_rfl, fun h => absurd h (by decide)⟩
theorem o103 : Tryd.prog.underlying 103 = some t103.desc ∧ (Tryd.prog.info? 103).map (fun j => (j.zero, j.size, j.bytes)) = some (some t103.zero, t103.size, t103.bytes) ∧ (t103.flat = true → FlatOk Tryd.prog 103 t103) := ⟨by kernel_rfl, by kernel_rfl, fun h => absurd h (by decide)⟩
theorem o104 : Tryd.prog.underlying 104 = some t104.desc ∧ (Tryd.prog.info? 104).map (fun j => (j.zero, j.size, j.bytes)) = some (some t104.zero, t104.size, t104.bytes) ∧ (t104.flat = true → FlatOk Tryd.prog 104 t104) := ⟨by kernel_rfl, by kernel_rfl, fun h => absurd h (by decide)⟩
theorem o105 : Tryd.prog.underlying 105 = some t105.desc ∧ (Tryd.prog.info? 105).map (fun j => (j.zero, j.size, j.bytes)) = some (some t105.zero, t105.size, t105.bytes) ∧ (t105.flat = true → FlatOk Tryd.prog 105 t105) := ⟨by kernel_rfl, by kernel_rfl, fun h => absurd h (by decide)⟩
theorem o106 : Tryd.prog.underlying 106 = some t106.desc ∧ (Tryd.prog.info? 106).map (fun j => (j.zero, j.size, j.bytes)) = some (some t106.zero, t106.size, t106.bytes) ∧ (t106.flat = true → FlatOk Tryd.prog 106 t106) := ⟨by kernel_rfl, by kernel_rfl, fun h => absurd h (by decide)⟩
theorem o107 : Tryd.prog.underlying 107 = some t107.desc ∧ (Tryd.prog.info? 107).map (fun j => (j.zero, j.size, j.bytes)) = some (some t107.zero, t107.size, t107.bytes) ∧ (t107.flat = true → FlatOk Tryd.prog 107 t107) := ⟨by kernel_rfl, by kernel_rfl, fun h => absurd h (by decide)⟩
theorem o108 : Tryd.prog.underlying 108 = some t108.desc ∧ (Tryd.prog.info? 108).map (fun j => (j.zero, j.size, j.bytes)) = some (some t108.zero, t108.size, t108.bytes) ∧ (t108.flat = true → FlatOk Tryd.prog 108 t108) := ⟨by kernel_rfl, by kernel_rfl, fun h => absurd h (by decide)⟩
theorem o109 : Tryd.prog.underlying 109 = some t109.desc ∧ (Tryd.prog.info? 109).map (fun j => (j.zero, j.size, j.bytes)) = some (some t109.zero, t109.size, t109.bytes) ∧ (t109.flat = true → FlatOk Tryd.prog 109 t109) := ⟨by kernel_rfl, by kernel_rfl, fun h => absurd h (by decide)⟩
theorem o110 : Tryd.prog.underlying 110 = some t110.desc ∧ (Tryd.prog.info? 110).map (fun j => (j.zero, j.size, j.bytes)) = some (some t110.zero, t110.size, t110.bytes) ∧ (t110.flat = true → FlatOk Tryd.prog 110 t110) := ⟨by kernel_rfl, by kernel_rfl, fun _ => ⟨by kernel_rfl, by kernel_rfl, by kernel_rfl⟩⟩
theorem o111 : Tryd.prog.underlying 111 = some t111.desc ∧ (Tryd.prog.info? 111).map (fun j => (j.zero, j.size, j.bytes)) = some (some t111.zero, t111.size, t111.bytes) ∧ (t111.flat = true → FlatOk Tryd.prog 111 t111) := ⟨by kernel_rfl, by kernel_rfl, fun h => absurd h (by decide)⟩
theorem o112 : Tryd.prog.underlying 112 = some t112.desc ∧ (Tryd.prog.info? 112).map (fun j => (j.zero, j.size, j.bytes)) = some (some t112.zero, t112.size, t112.bytes) ∧ (t112.flat = true → FlatOk Tryd.prog 112 t112) := ⟨by kernel_rfl, by kernel_rfl, fun h => absurd h (by decide)⟩
theorem o113 : Tryd.prog.underlying 113 = some t113.desc ∧ (Tryd.prog.info? 113).map (fun j => (j.zero, j.size, j.bytes)) = some (some t113.zero, t113.size, t113.bytes) ∧ (t113.flat = true → FlatOk Tryd.prog 113 t113) := ⟨by kernel_rfl, by kernel_rfl, fun h => absurd h (by decide)⟩
theorem o119 : Tryd.prog.underlying 119 = some t119.desc ∧ (Tryd.prog.info? 119).map (fun j => (j.zero, j.size, j.bytes)) = some (some t119.zero, t119.size, t119.bytes) ∧ (t119.flat = true → FlatOk Tryd.prog 119 t119) := ⟨by kernel_rfl, by kernel_rfl, fun h => absurd h (by decide)⟩
theorem o120 : Tryd.prog.underlying 120 = some t120.desc ∧ (Tryd.prog.info? 120).map (fun j => (j.zero, j.size, j.bytes)) = some (some t120.zero, t120.size, t120.bytes) ∧ (t120.flat = true → FlatOk Tryd.prog 120 t120) := ⟨by kernel_rfl, by kernel_rfl, fun h => absurd h (by decide)⟩
theorem o123 : Tryd.prog.underlying 123 = some t123.desc ∧ (Tryd.prog.info? 123).map (fun j => (j.zero, j.size, j.bytes)) = some (some t123.zero, t123.size, t123.bytes) ∧ (t123.flat = true → FlatOk Tryd.prog 123 t123) := ⟨by kernel_rfl, by kernel_rfl, fun h => absurd h (by decide)⟩
theorem o124 : Tryd.prog.underlying 124 = some t124.desc ∧ (Tryd.prog.info? 124).map (fun j => (j.zero, j.size, j.bytes)) = some (some t124.zero, t124.size, t124.bytes) ∧ (t124.flat = true → FlatOk Tryd.prog 124 t124) := ⟨by kernel_rfl, by kernel_rfl, fun h => absurd h (by decide)⟩
def ts : List (Nat × TI) := [(0, t0), (1, t1), (2, t2), (3, t3), (4, t4), (5, t5), (9, t9), (12, t12), (13, t13), (20, t20), (21, t21), (22, t22), (23, t23), (24, t24), (25, t25), (26, t26), (27, t27), (28, t28), (29, t29), (30, t30), (31, t31), (32, t32), (33, t33), (34, t34), (35, t35), (36, t36), (37, t37), (38, t38), (39, t39), (40, t40), (41, t41), (42, t42), (43, t43), (44, t44), (45, t45), (46, t46), (47, t47), (48, t48), (49, t49), (50, t50), (51, t51), (52, t52), (53, t53), (54, t54), (55, t55), (56, t56), (57, t57), (58, t58), (59, t59), (60, t60), (61, t61), (62, t62), (63, t63), (64, t64), (65, t65), (66, t66), (67, t67), (68, t68), (69, t69), (70, t70), (71, t71), (72, t72), (73, t73), (74, t74), (75, t75), (76, t76), (77, t77), (78, t78), (79, t79), (80, t80), (81, t81), (82, t82), (83, t83), (84, t84), (85, t85), (86, t86), (87, t87), (88, t88), (89, t89), (90, t90), (91, t91), (92, t92), (93, t93), (94, t94), (95, t95), (96, t96), (97, t97), (98, t98), (99, t99), (100, t100), (101, t101), (102, t102), (103, t103), (104, t104), (105, t105), (106, t106), (107, t107), (108, t108), (109, t109), (110, t110), (111, t111), (112, t112), (113, t113), (119, t119), (120, t120), (123, t123), (124, t124)]
theorem ts_ok : TabOkT Tryd.prog ts := by
  refine ⟨o0, o1, o2, o3, o4, o5, o9, o12, o13, o20, o21, o22, o23, o24, o25, o26, o27, o28, o29, o30, o31, o32, o33, o34, o35, o36, o37, o38, o39, o40, o41, o42, o43, o44, o45, o46, o47, o48, o49, o50, o51, o52, o53, o54, o55, o56, o57, o58, o59, o60, o61, o62, o63, o64, o65, o66, o67, o68, o69, o70, o71, o72, o73, o74, o75, o76, o77, o78, o79, o80, o81, o82, o83, o84, o85, o86, o87, o88, o89, o90, o91, o92, o93, o94, o95, o96, o97, o98, o99, o100, o101, o102, o103, o104, o105, o106, o107, o108, o109, o110, o111, o112, o113, o119, o120, o123, o124, trivial⟩
theorem g3 : IsGo Tryd.prog 3 := ⟨Tryd.f3, Tryd.func3, by kernel_rfl, by kernel_rfl⟩
theorem g4 : IsGo Tryd.prog 4 := ⟨Tryd.f4, Tryd.func4, by kernel_rfl, by kernel_rfl⟩
theorem g5 : IsGo Tryd.prog 5 := ⟨Tryd.f5, Tryd.func5, by kernel_rfl, by kernel_rfl⟩
theorem g6 : IsGo Tryd.prog 6 := ⟨Tryd.f6, Tryd.func6, by kernel_rfl, by kernel_rfl⟩
theorem g7 : IsGo Tryd.prog 7 := ⟨Tryd.f7, Tryd.func7, by kernel_rfl, by kernel_rfl⟩
theorem g8 : IsGo Tryd.prog 8 := ⟨Tryd.f8, Tryd.func8, by kernel_rfl, by kernel_rfl⟩
theorem g9 : IsGo Tryd.prog 9 := ⟨Tryd.f9, Tryd.func9, by kernel_rfl, by kernel_rfl⟩
theorem g10 : IsGo Tryd.prog 10 := ⟨Tryd.f10, Tryd.func10, by kernel_rfl, by kernel_rfl⟩
theorem g11 : IsGo Tryd.prog 11 := ⟨Tryd.f11, Tryd.func11, by kernel_rfl, by kernel_rfl⟩
theorem g12 : IsGo Tryd.prog 12 := ⟨Tryd.f12, Tryd.func12, by kernel_rfl, by kernel_rfl⟩
theorem g13 : IsGo Tryd.prog 13 := ⟨Tryd.f13, Tryd.func13, by kernel_rfl, by kernel_rfl⟩
theorem g14 : IsGo Tryd.prog 14 := ⟨Tryd.f14, Tryd.func14, by kernel_rfl, by kernel_rfl⟩
theorem g15 : IsGo Tryd.prog 15 := ⟨Tryd.f15, Tryd.func15, by kernel_rfl, by kernel_rfl⟩
theorem g16 : IsGo Tryd.prog 16 := ⟨Tryd.f16, Tryd.func16, by kernel_rfl, by kernel_rfl⟩
theorem g17 : IsGo Tryd.prog 17 := ⟨Tryd.f17, Tryd.func17, by kernel_rfl, by kernel_rfl⟩
theorem g18 : IsGo Tryd.prog 18 := ⟨Tryd.f18, Tryd.func18, by kernel_rfl, by kernel_rfl⟩
theorem g19 : IsGo Tryd.prog 19 := ⟨Tryd.f19, Tryd.func19, by kernel_rfl, by kernel_rfl⟩
theorem g20 : IsGo Tryd.prog 20 := ⟨Tryd.f20, Tryd.func20, by kernel_rfl, by kernel_rfl⟩
theorem g21 : IsGo Tryd.prog 21 := ⟨Tryd.f21, Tryd.func21, by kernel_rfl, by kernel_rfl⟩
theorem g22 : IsGo Tryd.prog 22 := ⟨Tryd.f22, Tryd.func22, by kernel_rfl, by kernel_rfl⟩
theorem g23 : IsGo Tryd.prog 23 := ⟨Tryd.f23, Tryd.func23, by kernel_rfl, by kernel_rfl⟩
theorem g24 : IsGo Tryd.prog 24 := ⟨Tryd.f24, Tryd.func24, by kernel_rfl, by kernel_rfl⟩
theorem g25 : IsGo Tryd.prog 25 := ⟨Tryd.f25, Tryd.func25, by kernel_rfl, by kernel_rfl⟩
theorem g26 : IsGo Tryd.prog 26 := ⟨Tryd.f26, Tryd.func26, by kernel_rfl, by kernel_rfl⟩
theorem g27 : IsGo Tryd.prog 27 := ⟨Tryd.f27, Tryd.func27, by kernel_rfl, by kernel_rfl⟩
theorem g28 : IsGo Tryd.prog 28 := ⟨Tryd.f28, Tryd.func28, by kernel_rfl, by kernel_rfl⟩
theorem g29 : IsGo Tryd.prog 29 := ⟨Tryd.f29, Tryd.func29, by kernel_rfl, by kernel_rfl⟩
theorem g30 : IsGo Tryd.prog 30 := ⟨Tryd.f30, Tryd.func30, by kernel_rfl, by kernel_rfl⟩
theorem g31 : IsGo Tryd.prog 31 := ⟨Tryd.f31, Tryd.func31, by kernel_rfl, by kernel_rfl⟩
theorem g32 : IsGo Tryd.prog 32 := ⟨Tryd.f32, Tryd.func32, by kernel_rfl, by kernel_rfl⟩
theorem g33 : IsGo Tryd.prog 33 := ⟨Tryd.f33, Tryd.func33, by kernel_rfl, by kernel_rfl⟩
theorem g34 : IsGo Tryd.prog 34 := ⟨Tryd.f34, Tryd.func34, by kernel_rfl, by kernel_rfl⟩
theorem g35 : IsGo Tryd.prog 35 := ⟨Tryd.f35, Tryd.func35, by kernel_rfl, by kernel_rfl⟩
theorem g36 : IsGo Tryd.prog 36 := ⟨Tryd.f36, Tryd.func36, by kernel_rfl, by kernel_rfl⟩
theorem g37 : IsGo Tryd.prog 37 := ⟨Tryd.f37, Tryd.func37, by kernel_rfl, by kernel_rfl⟩
theorem g38 : IsGo Tryd.prog 38 := ⟨Tryd.f38, Tryd.func38, by kernel_rfl, by kernel_rfl⟩
theorem g39 : IsGo Tryd.prog 39 := ⟨Tryd.f39, Tryd.func39, by kernel_rfl, by kernel_rfl⟩
theorem g40 : IsGo Tryd.prog 40 := ⟨Tryd.f40, Tryd.func40, by kernel_rfl, by kernel_rfl⟩
theorem g41 : IsGo Tryd.prog 41 := ⟨Tryd.f41, Tryd.func41, by kernel_rfl, by kernel_rfl⟩
theorem g42 : IsGo Tryd.prog 42 := ⟨Tryd.f42, Tryd.func42, by kernel_rfl, by kernel_rfl⟩
theorem g43 : IsGo Tryd.prog 43 := ⟨Tryd.f43, Tryd.func43, by kernel_rfl, by kernel_rfl⟩
theorem g44 : IsGo Tryd.prog 44 := ⟨Tryd.f44, Tryd.func44, by kernel_rfl, by kernel_rfl⟩
theorem g45 : IsGo Tryd.prog 45 := ⟨Tryd.f45, Tryd.func45, by kernel_rfl, by kernel_rfl⟩
theorem g46 : IsGo Tryd.prog 46 := ⟨Tryd.f46, Tryd.func46, by kernel_rfl, by kernel_rfl⟩
theorem g47 : IsGo Tryd.prog 47 := ⟨Tryd.f47, Tryd.func47, by kernel_rfl, by kernel_rfl⟩
theorem g48 : IsGo Tryd.prog 48 := ⟨Tryd.f48, Tryd.func48, by kernel_rfl, by kernel_rfl⟩
theorem g49 : IsGo Tryd.prog 49 := ⟨Tryd.f49, Tryd.func49, by kernel_rfl, by kernel_rfl⟩
theorem g50 : IsGo Tryd.prog 50 := ⟨Tryd.f50, Tryd.func50, by kernel_rfl, by kernel_rfl⟩
theorem g51 : IsGo Tryd.prog 51 := ⟨Tryd.f51, Tryd.func51, by kernel_rfl, by kernel_rfl⟩
theorem g52 : IsGo Tryd.prog 52 := ⟨Tryd.f52, Tryd.func52, by kernel_rfl, by kernel_rfl⟩
theorem g53 : IsGo Tryd.prog 53 := ⟨Tryd.f53, Tryd.func53, by kernel_rfl, by kernel_rfl⟩
theorem g54 : IsGo Tryd.prog 54 := ⟨Tryd.f54, Tryd.func54, by kernel_rfl, by kernel_rfl⟩
theorem g55 : IsGo Tryd.prog 55 := ⟨Tryd.f55, Tryd.func55, by kernel_rfl, by kernel_rfl⟩
theorem g56 : IsGo Tryd.prog 56 := ⟨Tryd.f56, Tryd.func56, by kernel_rfl, by kernel_rfl⟩
theorem g57 : IsGo Tryd.prog 57 := ⟨Tryd.f57, Tryd.func57, by kernel_rfl, by kernel_rfl⟩
theorem g58 : IsGo Tryd.prog 58 := ⟨Tryd.f58, Tryd.func58, by kernel_rfl, by kernel_rfl⟩
theorem g59 : IsGo Tryd.prog 59 := ⟨Tryd.f59, Tryd.func59, by kernel_rfl, by kernel_rfl⟩
theorem g60 : IsGo Tryd.prog 60 := ⟨Tryd.f60, Tryd.func60, by kernel_rfl, by kernel_rfl⟩
theorem g61 : IsGo Tryd.prog 61 := ⟨Tryd.f61, Tryd.func61, by kernel_rfl, by kernel_rfl⟩
theorem g62 : IsGo Tryd.prog 62 := ⟨Tryd.f62, Tryd.func62, by kernel_rfl, by kernel_rfl⟩
theorem g63 : IsGo Tryd.prog 63 := ⟨Tryd.f63, Tryd.func63, by kernel_rfl, by kernel_rfl⟩
theorem g64 : IsGo Tryd.prog 64 := ⟨Tryd.f64, Tryd.func64, by kernel_rfl, by kernel_rfl⟩
theorem g65 : IsGo Tryd.prog 65 := ⟨Tryd.f65, Tryd.func65, by kernel_rfl, by kernel_rfl⟩
theorem g66 : IsGo Tryd.prog 66 := ⟨Tryd.f66, Tryd.func66, by kernel_rfl, by kernel_rfl⟩
theorem g67 : IsGo Tryd.prog 67 := ⟨Tryd.f67, Tryd.func67, by kernel_rfl, by kernel_rfl⟩
theorem g68 : IsGo Tryd.prog 68 := ⟨Tryd.f68, Tryd.func68, by kernel_rfl, by kernel_rfl⟩
theorem g69 : IsGo Tryd.prog 69 := ⟨Tryd.f69, Tryd.func69, by kernel_rfl, by kernel_rfl⟩
theorem g70 : IsGo Tryd.prog 70 := ⟨Tryd.f70, Tryd.func70, by kernel_rfl, by kernel_rfl⟩
theorem g71 : IsGo Tryd.prog 71 := ⟨Tryd.f71, Tryd.func71, by kernel_rfl, by kernel_rfl⟩
theorem g72 : IsGo Tryd.prog 72 := ⟨Tryd.f72, Tryd.func72, by kernel_rfl, by kernel_rfl⟩
theorem g73 : IsGo Tryd.prog 73 := ⟨Tryd.f73, Tryd.func73, by kernel_rfl, by kernel_rfl⟩
theorem g74 : IsGo Tryd.prog 74 := ⟨Tryd.f74, Tryd.func74, by kernel_rfl, by kernel_rfl⟩
theorem g75 : IsGo Tryd.prog 75 := ⟨Tryd.f75, Tryd.func75, by kernel_rfl, by kernel_rfl⟩
theorem g76 : IsGo Tryd.prog 76 := ⟨Tryd.f76, Tryd.func76, by kernel_rfl, by kernel_rfl⟩
theorem g77 : IsGo Tryd.prog 77 := ⟨Tryd.f77, Tryd.func77, by kernel_rfl, by kernel_rfl⟩
theorem g78 : IsGo Tryd.prog 78 := ⟨Tryd.f78, Tryd.func78, by kernel_rfl, by kernel_rfl⟩
theorem g79 : IsGo Tryd.prog 79 := ⟨Tryd.f79, Tryd.func79, by kernel_rfl, by kernel_rfl⟩
theorem g80 : IsGo Tryd.prog 80 := ⟨Tryd.f80, Tryd.func80, by kernel_rfl, by kernel_rfl⟩
theorem g81 : IsGo Tryd.prog 81 := ⟨Tryd.f81, Tryd.func81, by kernel_rfl, by kernel_rfl⟩
theorem g82 : IsGo Tryd.prog 82 := ⟨Tryd.f82, Tryd.func82, by kernel_rfl, by kernel_rfl⟩
def fs : List Nat := [3, 4, 5, 6, 7, 8, 9, 10, 11, 12, 13, 14, 15, 16, 17, 18, 19, 20, 21, 22, 23, 24, 25, 26, 27, 28, 29, 30, 31, 32, 33, 34, 35, 36, 37, 38, 39, 40, 41, 42, 43, 44, 45, 46, 47, 48, 49, 50, 51, 52, 53, 54, 55, 56, 57, 58, 59, 60, 61, 62, 63, 64, 65, 66, 67, 68, 69, 70, 71, 72, 73, 74, 75, 76, 77, 78, 79, 80, 81, 82]
theorem fs_ok : TabOkF Tryd.prog fs := ⟨g3, g4, g5, g6, g7, g8, g9, g10, g11, g12, g13, g14, g15, g16, g17, g18, g19, g20, g21, g22, g23, g24, g25, g26, g27, g28, g29, g30, g31, g32, g33, g34, g35, g36, g37, g38, g39, g40, g41, g42, g43, g44, g45, g46, g47, g48, g49, g50, g51, g52, g53, g54, g55, g56, g57, g58, g59, g60, g61, g62, g63, g64, g65, g66, g67, g68, g69, g70, g71, g72, g73, g74, g75, g76, g77, g78, g79, g80, g81, g82, trivial⟩
def tb : Tab := ⟨ts, fs⟩
theorem ok : TabOk Tryd.prog tb := ⟨ts_ok, fs_ok⟩
end T
end Go.Proofs.YtbbadmlekagloaaDoor
namespace Go.Proofs.YtbbadmlekagloaaDoor
open Go Go.Sh
attribute [local irreducible] Blk Ext RdS
theorem mixed : Tryd.prog.follows .mixedOrders = true := by kernel_rfl
structure Ins where
  kd : Int
  a : Int
  b : Int
  c : Int
  k : Int
deriving DecidableEq
structure Fn where
  params : Int
  regs : Int
  slots : Int
  code : List Ins
deriving DecidableEq
def Ins.enc (x : Ins) : List Value := [.int .i64 x.kd, .int .i64 x.a, .int .i64 x.b, .int .i64 x.c, .int .i64 x.k]
def Ins.v (x : Ins) : Value := .agg #[.int .i64 x.kd, .int .i64 x.a, .int .i64 x.b, .int .i64 x.c, .int .i64 x.k]
def Fn.v (f : Fn) (A : Option Addr) (c : Nat) : Value := .agg #[.int .i64 f.params, .int .i64 f.regs, .int .i64 f.slots, .slice A f.code.length c]
abbrev RdC (w : World) (A : Option Addr) (l : List Ins) : Prop := RdS Ins.enc 5 w A l
def shapedB (f : Fn) : Bool := decide (0 ≤ f.params ∧ f.params ≤ 8 ∧ 1 ≤ f.regs ∧ f.params ≤ f.regs ∧ f.regs ≤ 16 ∧ 0 ≤ f.slots ∧ f.slots ≤ 8 ∧ 1 ≤ f.code.length ∧ f.code.length ≤ 512)
theorem shaped_c (f : Fn) (A : Option Addr) (c : Nat) (w : World) :
    Cl Tryd.prog 59 #[f.v A c] w (fun v w' => v = .bool (shapedB f) ∧ Ext w w') (fun _ _ => False) := by
  refine calls_ex (args := [f.v A c]) T.ok Tryd.func59 rfl rfl rfl rfl ?_
  repeat' (first | (show Gd _ _ _; first | with_reducible refine Gd.t ?_ | with_reducible refine Gd.f ?_ | with_reducible refine Gd.dec (fun _ => ?_) (fun _ => ?_) | with_reducible refine Gd.beq (fun _ => ?_) (fun _ => ?_) | with_reducible refine Gd.bne (fun _ => ?_) (fun _ => ?_) | with_reducible refine Gd.not ?_ | refine Gd.t ?_ | refine Gd.f ?_ | with_reducible refine Gd.var (fun _ => ?_) (fun _ => ?_)) | (show Sq _ _ _; refine Sq.mk ?_) | (show Ld1 _ _ _; first | (apply Ld1.blk; (focus ((repeat (first | assumption | (apply Blk.from; assumption))); done)); rfl) | (apply Ld1.rsF; (focus ((repeat (first | assumption | (apply RdS.from; assumption))); done)); assumption; rfl) | (apply Ld1.rs; (focus ((repeat (first | assumption | (apply RdS.from; assumption))); done)); assumption; rfl)) | (show Ld _ _ _ _; first | (apply Ld.blk; (focus ((repeat (first | assumption | (apply Blk.from; assumption))); done)); rfl) | (apply Ld.rs; (focus ((repeat (first | assumption | (apply RdS.from; assumption))); done)); assumption)) | (show Ix _ _ _ _ _; first | (apply Ix.rs; (focus ((repeat (first | assumption | (apply RdS.from; assumption))); done)); (first | with_reducible rfl | assumption); (first | assumption | omega)) | (apply Ix.arr; (focus ((repeat (first | assumption | (apply RdS.from; assumption))); done)); (first | assumption | (simp; done)); (first | with_reducible rfl | assumption); (first | assumption | omega))) | (show Al _ _ _ _; refine Al.mk (fun _ _ _ _ _ _ => ?_)) | (show St _ _ _ _; apply St.new; assumption; assumption; assumption; rfl; rfl; intro _ _ _ _))
  all_goals exact ⟨b_eq (by (first | rfl | (simp [shapedB]; done) | (simp [shapedB]; omega) | (rw [Bool.eq_iff_iff]; simp [shapedB]; omega) | (rw [Bool.eq_iff_iff]; simp [shapedB]; done))), by (repeat (first | exact Ext.refl _ | assumption | (apply Ext.from; assumption)))⟩
theorem shapeOK_c (f : Fn) (A : Option Addr) (c : Nat) (w : World) :
    Cl Tryd.prog 65 #[f.v A c] w (fun v w' => v = .bool (shapedB f) ∧ Ext w w') (fun _ _ => False) := by
  refine calls_ex (args := [f.v A c]) T.ok Tryd.func65 rfl rfl rfl rfl ?_
  repeat' (first | (show Gd _ _ _; first | with_reducible refine Gd.t ?_ | with_reducible refine Gd.f ?_ | with_reducible refine Gd.dec (fun _ => ?_) (fun _ => ?_) | with_reducible refine Gd.beq (fun _ => ?_) (fun _ => ?_) | with_reducible refine Gd.bne (fun _ => ?_) (fun _ => ?_) | with_reducible refine Gd.not ?_ | refine Gd.t ?_ | refine Gd.f ?_ | with_reducible refine Gd.var (fun _ => ?_) (fun _ => ?_)) | (show Sq _ _ _; refine Sq.mk ?_) | (show Ld1 _ _ _; first | (apply Ld1.blk; (focus ((repeat (first | assumption | (apply Blk.from; assumption))); done)); rfl) | (apply Ld1.rsF; (focus ((repeat (first | assumption | (apply RdS.from; assumption))); done)); assumption; rfl) | (apply Ld1.rs; (focus ((repeat (first | assumption | (apply RdS.from; assumption))); done)); assumption; rfl)) | (show Ld _ _ _ _; first | (apply Ld.blk; (focus ((repeat (first | assumption | (apply Blk.from; assumption))); done)); rfl) | (apply Ld.rs; (focus ((repeat (first | assumption | (apply RdS.from; assumption))); done)); assumption)) | (show Ix _ _ _ _ _; first | (apply Ix.rs; (focus ((repeat (first | assumption | (apply RdS.from; assumption))); done)); (first | with_reducible rfl | assumption); (first | assumption | omega)) | (apply Ix.arr; (focus ((repeat (first | assumption | (apply RdS.from; assumption))); done)); (first | assumption | (simp; done)); (first | with_reducible rfl | assumption); (first | assumption | omega))) | (show Al _ _ _ _; refine Al.mk (fun _ _ _ _ _ _ => ?_)) | (show St _ _ _ _; apply St.new; assumption; assumption; assumption; rfl; rfl; intro _ _ _ _))
  all_goals exact ⟨b_eq (by (first | rfl | (simp [shapedB]; done) | (simp [shapedB]; omega) | (rw [Bool.eq_iff_iff]; simp [shapedB]; omega) | (rw [Bool.eq_iff_iff]; simp [shapedB]; done))), by (repeat (first | exact Ext.refl _ | assumption | (apply Ext.from; assumption)))⟩
def belowB (x n : Int) : Bool := decide (0 ≤ x ∧ x < n)
theorem below_c (x n : Int) (w : World) :
    Cl Tryd.prog 56 #[.int .i64 x, .int .i64 n] w (fun v w' => v = .bool (belowB x n) ∧ Ext w w') (fun _ _ => False) := by
  refine calls_ex (args := [.int .i64 x, .int .i64 n]) T.ok Tryd.func56 rfl rfl rfl rfl ?_
  repeat' (first | (show Gd _ _ _; first | with_reducible refine Gd.t ?_ | with_reducible refine Gd.f ?_ | with_reducible refine Gd.dec (fun _ => ?_) (fun _ => ?_) | with_reducible refine Gd.beq (fun _ => ?_) (fun _ => ?_) | with_reducible refine Gd.bne (fun _ => ?_) (fun _ => ?_) | with_reducible refine Gd.not ?_ | refine Gd.t ?_ | refine Gd.f ?_ | with_reducible refine Gd.var (fun _ => ?_) (fun _ => ?_)) | (show Sq _ _ _; refine Sq.mk ?_) | (show Ld1 _ _ _; first | (apply Ld1.blk; (focus ((repeat (first | assumption | (apply Blk.from; assumption))); done)); rfl) | (apply Ld1.rsF; (focus ((repeat (first | assumption | (apply RdS.from; assumption))); done)); assumption; rfl) | (apply Ld1.rs; (focus ((repeat (first | assumption | (apply RdS.from; assumption))); done)); assumption; rfl)) | (show Ld _ _ _ _; first | (apply Ld.blk; (focus ((repeat (first | assumption | (apply Blk.from; assumption))); done)); rfl) | (apply Ld.rs; (focus ((repeat (first | assumption | (apply RdS.from; assumption))); done)); assumption)) | (show Ix _ _ _ _ _; first | (apply Ix.rs; (focus ((repeat (first | assumption | (apply RdS.from; assumption))); done)); (first | with_reducible rfl | assumption); (first | assumption | omega)) | (apply Ix.arr; (focus ((repeat (first | assumption | (apply RdS.from; assumption))); done)); (first | assumption | (simp; done)); (first | with_reducible rfl | assumption); (first | assumption | omega))) | (show Al _ _ _ _; refine Al.mk (fun _ _ _ _ _ _ => ?_)) | (show St _ _ _ _; apply St.new; assumption; assumption; assumption; rfl; rfl; intro _ _ _ _))
  all_goals exact ⟨b_eq (by (first | rfl | (simp [belowB]; done) | (simp [belowB]; omega) | (rw [Bool.eq_iff_iff]; simp [belowB]; omega) | (rw [Bool.eq_iff_iff]; simp [belowB]; done))), by (repeat (first | exact Ext.refl _ | assumption | (apply Ext.from; assumption)))⟩
def aloneB (f : Fn) (c : Ins) : Bool :=
  match c.kd with
  | 0 => belowB c.a f.regs
  | 8 => belowB c.a f.regs
  | 9 => belowB c.a f.regs
  | 1 => belowB c.a f.regs && belowB c.b f.regs
  | 2 => belowB c.a f.regs && belowB c.b f.regs && belowB c.c f.regs && decide (0 ≤ c.k ∧ c.k < 16)
  | 3 => belowB c.a f.code.length
  | 4 => belowB c.a f.regs && belowB c.b f.code.length
  | 5 => belowB c.a f.slots
  | 6 => true
  | 7 => belowB c.a f.regs && belowB c.b f.slots
  | _ => false
theorem alone_c (f : Fn) (A : Option Addr) (c : Nat) (x : Ins) (w : World) :
    Cl Tryd.prog 60 #[f.v A c, x.v] w (fun v w' => v = .bool (aloneB f x) ∧ Ext w w') (fun _ _ => False) := by
  refine calls_ex (args := [f.v A c, x.v]) T.ok Tryd.func60 rfl rfl rfl rfl ?_
  repeat' (first | (first | (show Gd _ _ _; first | with_reducible refine Gd.t ?_ | with_reducible refine Gd.f ?_ | with_reducible refine Gd.dec (fun _ => ?_) (fun _ => ?_) | with_reducible refine Gd.beq (fun _ => ?_) (fun _ => ?_) | with_reducible refine Gd.bne (fun _ => ?_) (fun _ => ?_) | with_reducible refine Gd.not ?_ | refine Gd.t ?_ | refine Gd.f ?_ | with_reducible refine Gd.var (fun _ => ?_) (fun _ => ?_)) | (show Sq _ _ _; refine Sq.mk ?_) | (show Ld1 _ _ _; first | (apply Ld1.blk; (focus ((repeat (first | assumption | (apply Blk.from; assumption))); done)); rfl) | (apply Ld1.rsF; (focus ((repeat (first | assumption | (apply RdS.from; assumption))); done)); assumption; rfl) | (apply Ld1.rs; (focus ((repeat (first | assumption | (apply RdS.from; assumption))); done)); assumption; rfl)) | (show Ld _ _ _ _; first | (apply Ld.blk; (focus ((repeat (first | assumption | (apply Blk.from; assumption))); done)); rfl) | (apply Ld.rs; (focus ((repeat (first | assumption | (apply RdS.from; assumption))); done)); assumption)) | (show Ix _ _ _ _ _; first | (apply Ix.rs; (focus ((repeat (first | assumption | (apply RdS.from; assumption))); done)); (first | with_reducible rfl | assumption); (first | assumption | omega)) | (apply Ix.arr; (focus ((repeat (first | assumption | (apply RdS.from; assumption))); done)); (first | assumption | (simp; done)); (first | with_reducible rfl | assumption); (first | assumption | omega))) | (show Al _ _ _ _; refine Al.mk (fun _ _ _ _ _ _ => ?_)) | (show St _ _ _ _; apply St.new; assumption; assumption; assumption; rfl; rfl; intro _ _ _ _)) | (show Cl _ _ _ _ _ _; refine Cl.mk (below_c _ _ _) ?_; rintro _ _ ⟨rfl, _⟩))
  all_goals (refine ⟨b_eq ?_, by (repeat (first | exact Ext.refl _ | assumption | (apply Ext.from; assumption)))⟩; unfold aloneB; split <;> simp_all <;> omega)
def endsB (f : Fn) : Bool := match f.code.getLast? with | some x => x.kd == 3 || x.kd == 9 | none => false
theorem last_get {f : Fn} (h : 1 ≤ f.code.length) : ∃ x, f.code[f.code.length - 1]? = some x ∧ endsB f = (x.kd == 3 || x.kd == 9) := by
  have : f.code ≠ [] := fun e => by simp [e] at h
  refine ⟨f.code.getLast this, by simp [List.getLast_eq_getElem], ?_⟩
  simp [endsB, List.getLast?_eq_some_getLast this]
theorem ends_c (f : Fn) (A : Option Addr) (c : Nat) (w : World) (hA : RdC w A f.code) (h1 : 1 ≤ f.code.length) (h2 : f.code.length ≤ 512) :
    Cl Tryd.prog 62 #[f.v A c] w (fun v w' => v = .bool (endsB f) ∧ Ext w w') (fun _ _ => False) := by
  obtain ⟨x, hx, he⟩ := last_get h1
  have hl : IntKind.i64.wrap ((f.code.length : Int) - 1) = ((f.code.length - 1 : Nat) : Int) := w64 (by omega) (by omega) (by omega)
  refine calls_ex (args := [f.v A c]) T.ok Tryd.func62 rfl rfl rfl rfl ?_
  repeat' (first | (show Gd _ _ _; first | with_reducible refine Gd.t ?_ | with_reducible refine Gd.f ?_ | with_reducible refine Gd.dec (fun _ => ?_) (fun _ => ?_) | with_reducible refine Gd.beq (fun _ => ?_) (fun _ => ?_) | with_reducible refine Gd.bne (fun _ => ?_) (fun _ => ?_) | with_reducible refine Gd.not ?_ | refine Gd.t ?_ | refine Gd.f ?_ | with_reducible refine Gd.var (fun _ => ?_) (fun _ => ?_)) | (show Sq _ _ _; refine Sq.mk ?_) | (show Ld1 _ _ _; first | (apply Ld1.blk; (focus ((repeat (first | assumption | (apply Blk.from; assumption))); done)); rfl) | (apply Ld1.rsF; (focus ((repeat (first | assumption | (apply RdS.from; assumption))); done)); assumption; rfl) | (apply Ld1.rs; (focus ((repeat (first | assumption | (apply RdS.from; assumption))); done)); assumption; rfl)) | (show Ld _ _ _ _; first | (apply Ld.blk; (focus ((repeat (first | assumption | (apply Blk.from; assumption))); done)); rfl) | (apply Ld.rs; (focus ((repeat (first | assumption | (apply RdS.from; assumption))); done)); assumption)) | (show Ix _ _ _ _ _; first | (apply Ix.rs; (focus ((repeat (first | assumption | (apply RdS.from; assumption))); done)); (first | with_reducible rfl | assumption); (first | assumption | omega)) | (apply Ix.arr; (focus ((repeat (first | assumption | (apply RdS.from; assumption))); done)); (first | assumption | (simp; done)); (first | with_reducible rfl | assumption); (first | assumption | omega))) | (show Al _ _ _ _; refine Al.mk (fun _ _ _ _ _ _ => ?_)) | (show St _ _ _ _; apply St.new; assumption; assumption; assumption; rfl; rfl; intro _ _ _ _))
  all_goals (refine ⟨b_eq ?_, by (repeat (first | exact Ext.refl _ | assumption | (apply Ext.from; assumption)))⟩; simp_all)
theorem lastOK_c (f : Fn) (A : Option Addr) (c : Nat) (w : World) (hA : RdC w A f.code) (h1 : 1 ≤ f.code.length) (h2 : f.code.length ≤ 512) :
    Cl Tryd.prog 77 #[f.v A c] w (fun v w' => v = .bool (endsB f) ∧ Ext w w') (fun _ _ => False) := by
  obtain ⟨x, hx, he⟩ := last_get h1
  have hl : IntKind.i64.wrap ((f.code.length : Int) - 1) = ((f.code.length - 1 : Nat) : Int) := w64 (by omega) (by omega) (by omega)
  refine calls_ex (args := [f.v A c]) T.ok Tryd.func77 rfl rfl rfl rfl ?_
  repeat' (first | (show Gd _ _ _; first | with_reducible refine Gd.t ?_ | with_reducible refine Gd.f ?_ | with_reducible refine Gd.dec (fun _ => ?_) (fun _ => ?_) | with_reducible refine Gd.beq (fun _ => ?_) (fun _ => ?_) | with_reducible refine Gd.bne (fun _ => ?_) (fun _ => ?_) | with_reducible refine Gd.not ?_ | refine Gd.t ?_ | refine Gd.f ?_ | with_reducible refine Gd.var (fun _ => ?_) (fun _ => ?_)) | (show Sq _ _ _; refine Sq.mk ?_) | (show Ld1 _ _ _; first | (apply Ld1.blk; (focus ((repeat (first | assumption | (apply Blk.from; assumption))); done)); rfl) | (apply Ld1.rsF; (focus ((repeat (first | assumption | (apply RdS.from; assumption))); done)); assumption; rfl) | (apply Ld1.rs; (focus ((repeat (first | assumption | (apply RdS.from; assumption))); done)); assumption; rfl)) | (show Ld _ _ _ _; first | (apply Ld.blk; (focus ((repeat (first | assumption | (apply Blk.from; assumption))); done)); rfl) | (apply Ld.rs; (focus ((repeat (first | assumption | (apply RdS.from; assumption))); done)); assumption)) | (show Ix _ _ _ _ _; first | (apply Ix.rs; (focus ((repeat (first | assumption | (apply RdS.from; assumption))); done)); (first | with_reducible rfl | assumption); (first | assumption | omega)) | (apply Ix.arr; (focus ((repeat (first | assumption | (apply RdS.from; assumption))); done)); (first | assumption | (simp; done)); (first | with_reducible rfl | assumption); (first | assumption | omega))) | (show Al _ _ _ _; refine Al.mk (fun _ _ _ _ _ _ => ?_)) | (show St _ _ _ _; apply St.new; assumption; assumption; assumption; rfl; rfl; intro _ _ _ _))
  all_goals (refine ⟨b_eq ?_, by (repeat (first | exact Ext.refl _ | assumption | (apply Ext.from; assumption)))⟩; simp_all)
end Go.Proofs.YtbbadmlekagloaaDoor
namespace Go.Proofs.YtbbadmlekagloaaDoor
open Go Go.Sh
attribute [local irreducible] Blk Ext RdS
def soundB (f : Fn) : Bool := shapedB f && f.code.all (aloneB f) && endsB f
theorem shaped_len {f : Fn} (h : shapedB f = true) : 1 ≤ f.code.length ∧ f.code.length ≤ 512 := by
  simp [shapedB] at h; omega
theorem Sound_c (f : Fn) (A : Option Addr) (c : Nat) (w : World) (hA : RdC w A f.code) :
    Cl Tryd.prog 48 #[f.v A c] w (fun v w' => v = .bool (soundB f) ∧ Ext w w') (fun _ _ => False) := by
  refine calls_ex (args := [f.v A c]) T.ok Tryd.func48 rfl rfl rfl rfl ?_
  refine Sq.mk ?_
  refine Al.mk fun p w1 hp hb e1 hs1 => ?_
  repeat' (first | (first | (show Gd _ _ _; first | with_reducible refine Gd.t ?_ | with_reducible refine Gd.f ?_ | with_reducible refine Gd.dec (fun _ => ?_) (fun _ => ?_) | with_reducible refine Gd.beq (fun _ => ?_) (fun _ => ?_) | with_reducible refine Gd.bne (fun _ => ?_) (fun _ => ?_) | with_reducible refine Gd.not ?_ | refine Gd.t ?_ | refine Gd.f ?_ | with_reducible refine Gd.var (fun _ => ?_) (fun _ => ?_)) | (show Sq _ _ _; refine Sq.mk ?_) | (show Ld1 _ _ _; first | (apply Ld1.blk; (focus ((repeat (first | assumption | (apply Blk.from; assumption))); done)); rfl) | (apply Ld1.rsF; (focus ((repeat (first | assumption | (apply RdS.from; assumption))); done)); assumption; rfl) | (apply Ld1.rs; (focus ((repeat (first | assumption | (apply RdS.from; assumption))); done)); assumption; rfl)) | (show Ld _ _ _ _; first | (apply Ld.blk; (focus ((repeat (first | assumption | (apply Blk.from; assumption))); done)); rfl) | (apply Ld.rs; (focus ((repeat (first | assumption | (apply RdS.from; assumption))); done)); assumption)) | (show Ix _ _ _ _ _; first | (apply Ix.rs; (focus ((repeat (first | assumption | (apply RdS.from; assumption))); done)); (first | with_reducible rfl | assumption); (first | assumption | omega)) | (apply Ix.arr; (focus ((repeat (first | assumption | (apply RdS.from; assumption))); done)); (first | assumption | (simp; done)); (first | with_reducible rfl | assumption); (first | assumption | omega))) | (show Al _ _ _ _; refine Al.mk (fun _ _ _ _ _ _ => ?_)) | (show St _ _ _ _; apply St.new; assumption; assumption; assumption; rfl; rfl; intro _ _ _ _)) | (show Cl _ _ _ _ _ _; refine Cl.mk (shaped_c _ _ _ _) ?_; rintro _ _ ⟨rfl, _⟩))
  all_goals (first | exact ⟨b_eq (by simp_all [soundB]), by (repeat (first | exact Ext.refl _ | assumption | (apply Ext.from; assumption)))⟩ | skip)
  · rename_i w2 e2 hsh
    have hsh : shapedB f = true := by simpa using hsh
    obtain ⟨hl1, hl2⟩ := shaped_len hsh
    have e02 := e1.trans e2
    have hb := hb.ext e2
    clear e1 e2 hs1
    refine Lp.g0 T.ok (σ := Nat) (fun i => [(3, .int .i64 (i : Int)), (1, .pointer (some ⟨p, 0, none⟩))])
      (fun i w' => i ≤ f.code.length ∧ (f.code.take i).all (aloneB f) = true ∧ Ext w2 w') (fun i _ => f.code.length - i) 0 rfl ⟨rfl, rfl, trivial⟩ ⟨by omega, by simp, Ext.refl _⟩ ?_
    intro i w3 ⟨hi, ht, e3⟩
    refine Sq.mk ?_
    refine Sq.mk ?_
    repeat' (first | (show Gd _ _ _; first | with_reducible refine Gd.t ?_ | with_reducible refine Gd.f ?_ | with_reducible refine Gd.dec (fun _ => ?_) (fun _ => ?_) | with_reducible refine Gd.beq (fun _ => ?_) (fun _ => ?_) | with_reducible refine Gd.bne (fun _ => ?_) (fun _ => ?_) | with_reducible refine Gd.not ?_ | refine Gd.t ?_ | refine Gd.f ?_ | with_reducible refine Gd.var (fun _ => ?_) (fun _ => ?_)) | (show Sq _ _ _; refine Sq.mk ?_) | (show Ld1 _ _ _; first | (apply Ld1.blk; (focus ((repeat (first | assumption | (apply Blk.from; assumption))); done)); rfl) | (apply Ld1.rsF; (focus ((repeat (first | assumption | (apply RdS.from; assumption))); done)); assumption; rfl) | (apply Ld1.rs; (focus ((repeat (first | assumption | (apply RdS.from; assumption))); done)); assumption; rfl)) | (show Ld _ _ _ _; first | (apply Ld.blk; (focus ((repeat (first | assumption | (apply Blk.from; assumption))); done)); rfl) | (apply Ld.rs; (focus ((repeat (first | assumption | (apply RdS.from; assumption))); done)); assumption)) | (show Ix _ _ _ _ _; first | (apply Ix.rs; (focus ((repeat (first | assumption | (apply RdS.from; assumption))); done)); (first | with_reducible rfl | assumption); (first | assumption | omega)) | (apply Ix.arr; (focus ((repeat (first | assumption | (apply RdS.from; assumption))); done)); (first | assumption | (simp; done)); (first | with_reducible rfl | assumption); (first | assumption | omega))) | (show Al _ _ _ _; refine Al.mk (fun _ _ _ _ _ _ => ?_)) | (show St _ _ _ _; apply St.new; assumption; assumption; assumption; rfl; rfl; intro _ _ _ _))
    · have hlt : i < f.code.length := by omega
      have hx := List.getElem?_eq_getElem hlt
      (show Dr _ _ _ _ _ _ _; refine Dr.quiet T.ok mixed (by kernel_rfl) (fun W hW => ?_))
      repeat' (first | (first | (show Gd _ _ _; first | with_reducible refine Gd.t ?_ | with_reducible refine Gd.f ?_ | with_reducible refine Gd.dec (fun _ => ?_) (fun _ => ?_) | with_reducible refine Gd.beq (fun _ => ?_) (fun _ => ?_) | with_reducible refine Gd.bne (fun _ => ?_) (fun _ => ?_) | with_reducible refine Gd.not ?_ | refine Gd.t ?_ | refine Gd.f ?_ | with_reducible refine Gd.var (fun _ => ?_) (fun _ => ?_)) | (show QLd1 _ _ _; first | (apply QLd1.blk hW; (focus ((repeat (first | assumption | (apply Blk.from; assumption))); done)); rfl) | (apply QLd1.rsF hW; (focus ((repeat (first | assumption | (apply RdS.from; assumption))); done)); assumption; rfl) | (apply QLd1.rs hW; (focus ((repeat (first | assumption | (apply RdS.from; assumption))); done)); assumption; rfl)) | (show QLd _ _ _ _; first | (apply QLd.blk hW; (focus ((repeat (first | assumption | (apply Blk.from; assumption))); done)); rfl) | (apply QLd.rs hW; (focus ((repeat (first | assumption | (apply RdS.from; assumption))); done)); assumption)) | (show Ix _ _ _ _ _; first | (apply Ix.rs; (focus ((repeat (first | assumption | (apply RdS.from; assumption))); done)); (first | with_reducible rfl | assumption); (first | assumption | omega)) | (apply Ix.arr; (focus ((repeat (first | assumption | (apply RdS.from; assumption))); done)); (first | assumption | (simp; done)); (first | with_reducible rfl | assumption); (first | assumption | omega)))) | (show QCl _ _ _ _ _ _; refine QCl.mk hW (fun _ _ => Cl.mk (alone_c _ _ _ _ _) (fun _ _ h => h)) ?_))
      intro w4 e4
      repeat' (first | (show Gd _ _ _; first | with_reducible refine Gd.t ?_ | with_reducible refine Gd.f ?_ | with_reducible refine Gd.dec (fun _ => ?_) (fun _ => ?_) | with_reducible refine Gd.beq (fun _ => ?_) (fun _ => ?_) | with_reducible refine Gd.bne (fun _ => ?_) (fun _ => ?_) | with_reducible refine Gd.not ?_ | refine Gd.t ?_ | refine Gd.f ?_ | with_reducible refine Gd.var (fun _ => ?_) (fun _ => ?_)) | (show Sq _ _ _; refine Sq.mk ?_) | (show Ld1 _ _ _; first | (apply Ld1.blk; (focus ((repeat (first | assumption | (apply Blk.from; assumption))); done)); rfl) | (apply Ld1.rsF; (focus ((repeat (first | assumption | (apply RdS.from; assumption))); done)); assumption; rfl) | (apply Ld1.rs; (focus ((repeat (first | assumption | (apply RdS.from; assumption))); done)); assumption; rfl)) | (show Ld _ _ _ _; first | (apply Ld.blk; (focus ((repeat (first | assumption | (apply Blk.from; assumption))); done)); rfl) | (apply Ld.rs; (focus ((repeat (first | assumption | (apply RdS.from; assumption))); done)); assumption)) | (show Ix _ _ _ _ _; first | (apply Ix.rs; (focus ((repeat (first | assumption | (apply RdS.from; assumption))); done)); (first | with_reducible rfl | assumption); (first | assumption | omega)) | (apply Ix.arr; (focus ((repeat (first | assumption | (apply RdS.from; assumption))); done)); (first | assumption | (simp; done)); (first | with_reducible rfl | assumption); (first | assumption | omega))) | (show Al _ _ _ _; refine Al.mk (fun _ _ _ _ _ _ => ?_)) | (show St _ _ _ _; apply St.new; assumption; assumption; assumption; rfl; rfl; intro _ _ _ _))
      · refine ⟨i + 1, ⟨at_int rfl (w64 (by simp) (by omega) (by omega)), rfl, trivial⟩, rfl, ⟨by omega, ?_, e3.trans e4⟩, by omega⟩
        rw [List.take_succ_eq_append_getElem hlt, List.all_append, ht]
        simp_all
      · refine ⟨b_eq ?_, by (repeat (first | exact Ext.refl _ | assumption | (apply Ext.from; assumption)))⟩
        have : f.code.all (aloneB f) = false := by
          rw [List.all_eq_false]
          exact ⟨_, List.getElem_mem hlt, by simp_all⟩
        simp [soundB, this]
    · have hi : i = f.code.length := by omega
      subst hi
      rw [List.take_length] at ht
      repeat' (first | (first | (show Gd _ _ _; first | with_reducible refine Gd.t ?_ | with_reducible refine Gd.f ?_ | with_reducible refine Gd.dec (fun _ => ?_) (fun _ => ?_) | with_reducible refine Gd.beq (fun _ => ?_) (fun _ => ?_) | with_reducible refine Gd.bne (fun _ => ?_) (fun _ => ?_) | with_reducible refine Gd.not ?_ | refine Gd.t ?_ | refine Gd.f ?_ | with_reducible refine Gd.var (fun _ => ?_) (fun _ => ?_)) | (show Sq _ _ _; refine Sq.mk ?_) | (show Ld1 _ _ _; first | (apply Ld1.blk; (focus ((repeat (first | assumption | (apply Blk.from; assumption))); done)); rfl) | (apply Ld1.rsF; (focus ((repeat (first | assumption | (apply RdS.from; assumption))); done)); assumption; rfl) | (apply Ld1.rs; (focus ((repeat (first | assumption | (apply RdS.from; assumption))); done)); assumption; rfl)) | (show Ld _ _ _ _; first | (apply Ld.blk; (focus ((repeat (first | assumption | (apply Blk.from; assumption))); done)); rfl) | (apply Ld.rs; (focus ((repeat (first | assumption | (apply RdS.from; assumption))); done)); assumption)) | (show Ix _ _ _ _ _; first | (apply Ix.rs; (focus ((repeat (first | assumption | (apply RdS.from; assumption))); done)); (first | with_reducible rfl | assumption); (first | assumption | omega)) | (apply Ix.arr; (focus ((repeat (first | assumption | (apply RdS.from; assumption))); done)); (first | assumption | (simp; done)); (first | with_reducible rfl | assumption); (first | assumption | omega))) | (show Al _ _ _ _; refine Al.mk (fun _ _ _ _ _ _ => ?_)) | (show St _ _ _ _; apply St.new; assumption; assumption; assumption; rfl; rfl; intro _ _ _ _)) | (show Cl _ _ _ _ _ _; refine Cl.mk (ends_c _ _ _ _ (by (focus ((repeat (first | assumption | (apply RdS.from; assumption))); done))) hl1 hl2) ?_; rintro _ _ ⟨rfl, _⟩))
      exact ⟨b_eq (by simp [soundB, hsh, ht]), by (repeat (first | exact Ext.refl _ | assumption | (apply Ext.from; assumption)))⟩

/-! the program's table, and its look at one instruction -/
structure Row where
  a : Int
  b : Int
  c : Int
  k : Int
  nx : Bool
def Row.enc (r : Row) : List Value := [.int .i64 r.a, .int .i64 r.b, .int .i64 r.c, .int .i64 r.k, .bool r.nx]
def rowOf : Nat → Row
  | 0 => ⟨1, 0, 0, 0, true⟩
  | 1 => ⟨1, 1, 0, 0, true⟩
  | 2 => ⟨1, 1, 1, 5, true⟩
  | 3 => ⟨3, 0, 0, 0, false⟩
  | 4 => ⟨1, 3, 0, 0, true⟩
  | 5 => ⟨2, 4, 0, 0, true⟩
  | 6 => ⟨0, 0, 0, 0, true⟩
  | 7 => ⟨1, 2, 0, 0, true⟩
  | 8 => ⟨1, 0, 0, 0, true⟩
  | _ => ⟨1, 0, 0, 0, false⟩
def rows10 : List Row := (List.range 10).map rowOf
abbrev RdG (w : World) : Prop := RdS Row.enc 5 w (some ⟨0, 0, none⟩) rows10
def fitsB (r n : Int) (f : Fn) (fs : Int) : Bool :=
  if r = 0 then true else if r = 1 then belowB n f.regs else if r = 2 then belowB n f.slots else if r = 3 then belowB n f.code.length
  else if r = 5 then belowB n 16 else if r = 4 then (if fs < 0 then true else belowB n fs) else belowB n 0
theorem fits_c (r n : Int) (f : Fn) (A : Option Addr) (c : Nat) (fs : Int) (w : World) :
    Cl Tryd.prog 82 #[.int .i64 r, .int .i64 n, f.v A c, .int .i64 fs] w (fun v w' => v = .bool (fitsB r n f fs) ∧ Ext w w') (fun _ _ => False) := by
  refine calls_ex (args := [.int .i64 r, .int .i64 n, f.v A c, .int .i64 fs]) T.ok Tryd.func82 rfl rfl rfl rfl ?_
  repeat' (first | (show Gd _ _ _; first | with_reducible refine Gd.t ?_ | with_reducible refine Gd.f ?_ | with_reducible refine Gd.dec (fun _ => ?_) (fun _ => ?_) | with_reducible refine Gd.beq (fun _ => ?_) (fun _ => ?_) | with_reducible refine Gd.bne (fun _ => ?_) (fun _ => ?_) | with_reducible refine Gd.not ?_ | refine Gd.t ?_ | refine Gd.f ?_ | with_reducible refine Gd.var (fun _ => ?_) (fun _ => ?_)) | (show Sq _ _ _; refine Sq.mk ?_) | (show Ld1 _ _ _; first | (apply Ld1.blk; (focus ((repeat (first | assumption | (apply Blk.from; assumption))); done)); rfl) | (apply Ld1.rsF; (focus ((repeat (first | assumption | (apply RdS.from; assumption))); done)); assumption; rfl) | (apply Ld1.rs; (focus ((repeat (first | assumption | (apply RdS.from; assumption))); done)); assumption; rfl)) | (show Ld _ _ _ _; first | (apply Ld.blk; (focus ((repeat (first | assumption | (apply Blk.from; assumption))); done)); rfl) | (apply Ld.rs; (focus ((repeat (first | assumption | (apply RdS.from; assumption))); done)); assumption)) | (show Ix _ _ _ _ _; first | (apply Ix.rs; (focus ((repeat (first | assumption | (apply RdS.from; assumption))); done)); (first | with_reducible rfl | assumption); (first | assumption | omega)) | (apply Ix.arr; (focus ((repeat (first | assumption | (apply RdS.from; assumption))); done)); (first | assumption | (simp; done)); (first | with_reducible rfl | assumption); (first | assumption | omega))) | (show Al _ _ _ _; refine Al.mk (fun _ _ _ _ _ _ => ?_)) | (show St _ _ _ _; apply St.new; assumption; assumption; assumption; rfl; rfl; intro _ _ _ _))
  all_goals (refine ⟨b_eq ?_, by (repeat (first | exact Ext.refl _ | assumption | (apply Ext.from; assumption)))⟩; simp_all [fitsB, belowB]; try omega)
theorem instr_range {f : Fn} {x : Ins} (h : x.kd < 0 ∨ 10 ≤ x.kd) : aloneB f x = false := by
  unfold aloneB
  split <;> first | omega | rfl
theorem alone_rows {f : Fn} {x : Ins} {k : Nat} (hk : x.kd = k) (h10 : k < 10) :
    aloneB f x = (fitsB (rowOf k).a x.a f (-1) && fitsB (rowOf k).b x.b f (-1) && fitsB (rowOf k).c x.c f (-1) && (if (rowOf k).k = 5 then decide (0 ≤ x.k ∧ x.k < 16) else true)) := by
  unfold aloneB
  have : k = 0 ∨ k = 1 ∨ k = 2 ∨ k = 3 ∨ k = 4 ∨ k = 5 ∨ k = 6 ∨ k = 7 ∨ k = 8 ∨ k = 9 := by omega
  rcases this with rfl | rfl | rfl | rfl | rfl | rfl | rfl | rfl | rfl | rfl <;> rw [hk] <;> simp [fitsB, rowOf]
theorem instrOK_nil (f : Fn) (A : Option Addr) (c : Nat) (x : Ins) (w : World) (hG : RdG w) :
    Cl Tryd.prog 76 #[x.v, f.v A c, .slice none 0 0] w (fun v w' => v = .bool (aloneB f x) ∧ Ext w w') (fun _ _ => False) := by
  by_cases hr : x.kd < 0 ∨ 10 ≤ x.kd
  · have ha := instr_range (f := f) hr
    refine calls_ex (args := [x.v, f.v A c, .slice none 0 0]) T.ok Tryd.func76 rfl rfl rfl rfl ?_
    repeat' (first | (show Gd _ _ _; first | with_reducible refine Gd.t ?_ | with_reducible refine Gd.f ?_ | with_reducible refine Gd.dec (fun _ => ?_) (fun _ => ?_) | with_reducible refine Gd.beq (fun _ => ?_) (fun _ => ?_) | with_reducible refine Gd.bne (fun _ => ?_) (fun _ => ?_) | with_reducible refine Gd.not ?_ | refine Gd.t ?_ | refine Gd.f ?_ | with_reducible refine Gd.var (fun _ => ?_) (fun _ => ?_)) | (show Sq _ _ _; refine Sq.mk ?_) | (show Ld1 _ _ _; first | (apply Ld1.blk; (focus ((repeat (first | assumption | (apply Blk.from; assumption))); done)); rfl) | (apply Ld1.rsF; (focus ((repeat (first | assumption | (apply RdS.from; assumption))); done)); assumption; rfl) | (apply Ld1.rs; (focus ((repeat (first | assumption | (apply RdS.from; assumption))); done)); assumption; rfl)) | (show Ld _ _ _ _; first | (apply Ld.blk; (focus ((repeat (first | assumption | (apply Blk.from; assumption))); done)); rfl) | (apply Ld.rs; (focus ((repeat (first | assumption | (apply RdS.from; assumption))); done)); assumption)) | (show Ix _ _ _ _ _; first | (apply Ix.rs; (focus ((repeat (first | assumption | (apply RdS.from; assumption))); done)); (first | with_reducible rfl | assumption); (first | assumption | omega)) | (apply Ix.arr; (focus ((repeat (first | assumption | (apply RdS.from; assumption))); done)); (first | assumption | (simp; done)); (first | with_reducible rfl | assumption); (first | assumption | omega))) | (show Al _ _ _ _; refine Al.mk (fun _ _ _ _ _ _ => ?_)) | (show St _ _ _ _; apply St.new; assumption; assumption; assumption; rfl; rfl; intro _ _ _ _))
    all_goals first | (exfalso; omega) | exact ⟨b_eq ha.symm, by (repeat (first | exact Ext.refl _ | assumption | (apply Ext.from; assumption)))⟩
  · obtain ⟨k, hk, hk10⟩ : ∃ k : Nat, x.kd = k ∧ k < 10 := ⟨x.kd.toNat, by omega, by omega⟩
    have hrow : rows10[k]? = some (rowOf k) := by simp [rows10, hk10]
    refine calls_ex (args := [x.v, f.v A c, .slice none 0 0]) T.ok Tryd.func76 rfl rfl rfl rfl ?_
    repeat' (first | ((show Gd _ _ _; first | with_reducible refine Gd.t ?_ | with_reducible refine Gd.f ?_ | with_reducible refine Gd.dec (fun _ => ?_) (fun _ => ?_) | with_reducible refine Gd.beq (fun _ => ?_) (fun _ => ?_) | with_reducible refine Gd.bne (fun _ => ?_) (fun _ => ?_) | with_reducible refine Gd.not ?_ | refine Gd.t ?_ | refine Gd.f ?_ | with_reducible refine Gd.var (fun _ => ?_) (fun _ => ?_)) <;> first | (exfalso; omega) | skip) | (first | (show Gd _ _ _; first | with_reducible refine Gd.t ?_ | with_reducible refine Gd.f ?_ | with_reducible refine Gd.dec (fun _ => ?_) (fun _ => ?_) | with_reducible refine Gd.beq (fun _ => ?_) (fun _ => ?_) | with_reducible refine Gd.bne (fun _ => ?_) (fun _ => ?_) | with_reducible refine Gd.not ?_ | refine Gd.t ?_ | refine Gd.f ?_ | with_reducible refine Gd.var (fun _ => ?_) (fun _ => ?_)) | (show Sq _ _ _; refine Sq.mk ?_) | (show Ld1 _ _ _; first | (apply Ld1.blk; (focus ((repeat (first | assumption | (apply Blk.from; assumption))); done)); rfl) | (apply Ld1.rsF; (focus ((repeat (first | assumption | (apply RdS.from; assumption))); done)); assumption; rfl) | (apply Ld1.rs; (focus ((repeat (first | assumption | (apply RdS.from; assumption))); done)); assumption; rfl)) | (show Ld _ _ _ _; first | (apply Ld.blk; (focus ((repeat (first | assumption | (apply Blk.from; assumption))); done)); rfl) | (apply Ld.rs; (focus ((repeat (first | assumption | (apply RdS.from; assumption))); done)); assumption)) | (show Ix _ _ _ _ _; first | (apply Ix.rs; (focus ((repeat (first | assumption | (apply RdS.from; assumption))); done)); (first | with_reducible rfl | assumption); (first | assumption | omega)) | (apply Ix.arr; (focus ((repeat (first | assumption | (apply RdS.from; assumption))); done)); (first | assumption | (simp; done)); (first | with_reducible rfl | assumption); (first | assumption | omega))) | (show Al _ _ _ _; refine Al.mk (fun _ _ _ _ _ _ => ?_)) | (show St _ _ _ _; apply St.new; assumption; assumption; assumption; rfl; rfl; intro _ _ _ _)) | (show Ix _ _ _ _ _; apply Ix.arr; (focus ((repeat (first | assumption | (apply RdS.from; assumption))); done)); rfl; exact hk; exact hk10) | (show Cl _ _ _ _ _ _; refine Cl.mk (fits_c _ _ _ _ _ _ _) ?_; rintro _ _ ⟨rfl, _⟩))
    all_goals (refine ⟨b_eq ?_, by (repeat (first | exact Ext.refl _ | assumption | (apply Ext.from; assumption)))⟩; rw [alone_rows hk hk10]; simp_all <;> omega)
end Go.Proofs.YtbbadmlekagloaaDoor
namespace Go.Proofs.YtbbadmlekagloaaDoor
open Go Go.Sh
attribute [local irreducible] Blk Ext RdS
theorem sound_c (f : Fn) (A : Option Addr) (c : Nat) (w : World) (hA : RdC w A f.code) (hG : RdG w) :
    Cl Tryd.prog 50 #[f.v A c] w (fun v w' => v = .bool (soundB f) ∧ Ext w w') (fun _ _ => False) := by
  refine calls_ex (args := [f.v A c]) T.ok Tryd.func50 rfl rfl rfl rfl ?_
  refine Sq.mk ?_
  refine Al.mk fun p w1 hp hb e1 hs1 => ?_
  repeat' (first | (first | (show Gd _ _ _; first | with_reducible refine Gd.t ?_ | with_reducible refine Gd.f ?_ | with_reducible refine Gd.dec (fun _ => ?_) (fun _ => ?_) | with_reducible refine Gd.beq (fun _ => ?_) (fun _ => ?_) | with_reducible refine Gd.bne (fun _ => ?_) (fun _ => ?_) | with_reducible refine Gd.not ?_ | refine Gd.t ?_ | refine Gd.f ?_ | with_reducible refine Gd.var (fun _ => ?_) (fun _ => ?_)) | (show Sq _ _ _; refine Sq.mk ?_) | (show Ld1 _ _ _; first | (apply Ld1.blk; (focus ((repeat (first | assumption | (apply Blk.from; assumption))); done)); rfl) | (apply Ld1.rsF; (focus ((repeat (first | assumption | (apply RdS.from; assumption))); done)); assumption; rfl) | (apply Ld1.rs; (focus ((repeat (first | assumption | (apply RdS.from; assumption))); done)); assumption; rfl)) | (show Ld _ _ _ _; first | (apply Ld.blk; (focus ((repeat (first | assumption | (apply Blk.from; assumption))); done)); rfl) | (apply Ld.rs; (focus ((repeat (first | assumption | (apply RdS.from; assumption))); done)); assumption)) | (show Ix _ _ _ _ _; first | (apply Ix.rs; (focus ((repeat (first | assumption | (apply RdS.from; assumption))); done)); (first | with_reducible rfl | assumption); (first | assumption | omega)) | (apply Ix.arr; (focus ((repeat (first | assumption | (apply RdS.from; assumption))); done)); (first | assumption | (simp; done)); (first | with_reducible rfl | assumption); (first | assumption | omega))) | (show Al _ _ _ _; refine Al.mk (fun _ _ _ _ _ _ => ?_)) | (show St _ _ _ _; apply St.new; assumption; assumption; assumption; rfl; rfl; intro _ _ _ _)) | (show Cl _ _ _ _ _ _; refine Cl.mk (shapeOK_c _ _ _ _) ?_; rintro _ _ ⟨rfl, _⟩))
  all_goals (first | exact ⟨b_eq (by simp_all [soundB]), by (repeat (first | exact Ext.refl _ | assumption | (apply Ext.from; assumption)))⟩ | skip)
  · rename_i w2 e2 hsh
    have hsh : shapedB f = true := by simpa using hsh
    obtain ⟨hl1, hl2⟩ := shaped_len hsh
    have e02 := e1.trans e2
    have hb := hb.ext e2
    clear e1 e2 hs1
    refine Lp.g0 T.ok (σ := Nat) (fun i => [(11, .int .i64 (i : Int)), (10, .int .i64 (f.code.length : Int)), (9, .slice A f.code.length c), (1, .pointer (some ⟨p, 0, none⟩))])
      (fun i w' => i ≤ f.code.length ∧ (f.code.take i).all (aloneB f) = true ∧ Ext w2 w') (fun i _ => f.code.length - i) 0 rfl ⟨rfl, rfl, rfl, rfl, trivial⟩ ⟨by omega, by simp, Ext.refl _⟩ ?_
    intro i w3 ⟨hi, ht, e3⟩
    by_cases hlt : i < f.code.length
    · have hx := List.getElem?_eq_getElem hlt
      repeat' (first | ((show Gd _ _ _; first | with_reducible refine Gd.t ?_ | with_reducible refine Gd.f ?_ | with_reducible refine Gd.dec (fun _ => ?_) (fun _ => ?_) | with_reducible refine Gd.beq (fun _ => ?_) (fun _ => ?_) | with_reducible refine Gd.bne (fun _ => ?_) (fun _ => ?_) | with_reducible refine Gd.not ?_ | refine Gd.t ?_ | refine Gd.f ?_ | with_reducible refine Gd.var (fun _ => ?_) (fun _ => ?_)) <;> first | (exfalso; omega) | skip) | (first | (show Gd _ _ _; first | with_reducible refine Gd.t ?_ | with_reducible refine Gd.f ?_ | with_reducible refine Gd.dec (fun _ => ?_) (fun _ => ?_) | with_reducible refine Gd.beq (fun _ => ?_) (fun _ => ?_) | with_reducible refine Gd.bne (fun _ => ?_) (fun _ => ?_) | with_reducible refine Gd.not ?_ | refine Gd.t ?_ | refine Gd.f ?_ | with_reducible refine Gd.var (fun _ => ?_) (fun _ => ?_)) | (show Sq _ _ _; refine Sq.mk ?_) | (show Ld1 _ _ _; first | (apply Ld1.blk; (focus ((repeat (first | assumption | (apply Blk.from; assumption))); done)); rfl) | (apply Ld1.rsF; (focus ((repeat (first | assumption | (apply RdS.from; assumption))); done)); assumption; rfl) | (apply Ld1.rs; (focus ((repeat (first | assumption | (apply RdS.from; assumption))); done)); assumption; rfl)) | (show Ld _ _ _ _; first | (apply Ld.blk; (focus ((repeat (first | assumption | (apply Blk.from; assumption))); done)); rfl) | (apply Ld.rs; (focus ((repeat (first | assumption | (apply RdS.from; assumption))); done)); assumption)) | (show Ix _ _ _ _ _; first | (apply Ix.rs; (focus ((repeat (first | assumption | (apply RdS.from; assumption))); done)); (first | with_reducible rfl | assumption); (first | assumption | omega)) | (apply Ix.arr; (focus ((repeat (first | assumption | (apply RdS.from; assumption))); done)); (first | assumption | (simp; done)); (first | with_reducible rfl | assumption); (first | assumption | omega))) | (show Al _ _ _ _; refine Al.mk (fun _ _ _ _ _ _ => ?_)) | (show St _ _ _ _; apply St.new; assumption; assumption; assumption; rfl; rfl; intro _ _ _ _)) | (show Cl _ _ _ _ _ _; refine Cl.mk (instrOK_nil _ _ _ _ _ (by (focus ((repeat (first | assumption | (apply RdS.from; assumption))); done)))) ?_; rintro _ _ ⟨rfl, _⟩))
      · refine ⟨i + 1, ⟨at_int rfl (w64 (by simp) (by omega) (by omega)), rfl, rfl, rfl, trivial⟩, rfl, ⟨by omega, ?_, by (repeat (first | exact Ext.refl _ | assumption | (apply Ext.from; assumption)))⟩, by omega⟩
        rw [List.take_succ_eq_append_getElem hlt, List.all_append, ht]
        simp_all
      · refine ⟨b_eq ?_, by (repeat (first | exact Ext.refl _ | assumption | (apply Ext.from; assumption)))⟩
        have : f.code.all (aloneB f) = false := by
          rw [List.all_eq_false]
          exact ⟨_, List.getElem_mem hlt, by simp_all⟩
        simp [soundB, this]
    · have hi : i = f.code.length := by omega
      subst hi
      rw [List.take_length] at ht
      repeat' (first | ((show Gd _ _ _; first | with_reducible refine Gd.t ?_ | with_reducible refine Gd.f ?_ | with_reducible refine Gd.dec (fun _ => ?_) (fun _ => ?_) | with_reducible refine Gd.beq (fun _ => ?_) (fun _ => ?_) | with_reducible refine Gd.bne (fun _ => ?_) (fun _ => ?_) | with_reducible refine Gd.not ?_ | refine Gd.t ?_ | refine Gd.f ?_ | with_reducible refine Gd.var (fun _ => ?_) (fun _ => ?_)) <;> first | (exfalso; omega) | skip) | (first | (show Gd _ _ _; first | with_reducible refine Gd.t ?_ | with_reducible refine Gd.f ?_ | with_reducible refine Gd.dec (fun _ => ?_) (fun _ => ?_) | with_reducible refine Gd.beq (fun _ => ?_) (fun _ => ?_) | with_reducible refine Gd.bne (fun _ => ?_) (fun _ => ?_) | with_reducible refine Gd.not ?_ | refine Gd.t ?_ | refine Gd.f ?_ | with_reducible refine Gd.var (fun _ => ?_) (fun _ => ?_)) | (show Sq _ _ _; refine Sq.mk ?_) | (show Ld1 _ _ _; first | (apply Ld1.blk; (focus ((repeat (first | assumption | (apply Blk.from; assumption))); done)); rfl) | (apply Ld1.rsF; (focus ((repeat (first | assumption | (apply RdS.from; assumption))); done)); assumption; rfl) | (apply Ld1.rs; (focus ((repeat (first | assumption | (apply RdS.from; assumption))); done)); assumption; rfl)) | (show Ld _ _ _ _; first | (apply Ld.blk; (focus ((repeat (first | assumption | (apply Blk.from; assumption))); done)); rfl) | (apply Ld.rs; (focus ((repeat (first | assumption | (apply RdS.from; assumption))); done)); assumption)) | (show Ix _ _ _ _ _; first | (apply Ix.rs; (focus ((repeat (first | assumption | (apply RdS.from; assumption))); done)); (first | with_reducible rfl | assumption); (first | assumption | omega)) | (apply Ix.arr; (focus ((repeat (first | assumption | (apply RdS.from; assumption))); done)); (first | assumption | (simp; done)); (first | with_reducible rfl | assumption); (first | assumption | omega))) | (show Al _ _ _ _; refine Al.mk (fun _ _ _ _ _ _ => ?_)) | (show St _ _ _ _; apply St.new; assumption; assumption; assumption; rfl; rfl; intro _ _ _ _)) | (show Cl _ _ _ _ _ _; refine Cl.mk (lastOK_c _ _ _ _ (by (focus ((repeat (first | assumption | (apply RdS.from; assumption))); done))) hl1 hl2) ?_; rintro _ _ ⟨rfl, _⟩))
      exact ⟨b_eq (by simp [soundB, hsh, ht]), by (repeat (first | exact Ext.refl _ | assumption | (apply Ext.from; assumption)))⟩
end Go.Proofs.YtbbadmlekagloaaDoor
