/- A plain evaluator of loaded code over a list of known slots, with its soundness: own work. -/
import Derived.Tactics
import Derived.Scope
import Derived.Below
import Derived.KernelRfl
import Derived.Laws.StructEq
namespace Go.Sh

abbrev Env := List (Nat × Value)
def look : Env → Nat → Option Value
  | [], _ => none
  | (d, v) :: r, t => match Nat.beq d t with | true => some v | false => look r t
structure Fr where
  env : Env
  ds : List Deferred
def Fr.put (F : Fr) : Option Nat → Value → Fr
  | none, _ => F
  | some d, v => { F with env := (d, v) :: F.env }
def Agr (n : Nat) (F : Fr) (a : Act) : Prop :=
  a.tmps.size = n ∧ a.defers = F.ds ∧ ∀ t v, look F.env t = some v → a.tmps[t]? = some v

structure TI where
  desc : TypeDesc
  size : Nat
  bytes : Nat
  zero : Value
  flat : Bool
structure Tab where
  ts : List (Nat × TI)
  fs : List Nat
def getT : List (Nat × TI) → Nat → Option TI
  | [], _ => none
  | (n, i) :: r, t => match Nat.beq n t with | true => some i | false => getT r t
def FlatOk (P : Program) (t : Nat) (i : TI) : Prop :=
  P.eqGuardType P.depth t = false ∧ P.stoodInHeld t = false ∧ (match i.desc with | .struct fs => fs.toList.all (fun f => f.name != "_") | _ => true) = true
def TabOkT (P : Program) : List (Nat × TI) → Prop
  | [] => True
  | (t, i) :: r => (P.underlying t = some i.desc ∧ (P.info? t).map (fun j => (j.zero, j.size, j.bytes)) = some (some i.zero, i.size, i.bytes) ∧
      (i.flat = true → FlatOk P t i)) ∧ TabOkT P r
def IsGo (P : Program) (f : Nat) : Prop := ∃ fn, P.funcs[f]? = some fn ∧ (fn.name == "runtime.NumGoroutine") = false ∧ fn.body.isNone = false
def TabOkF (P : Program) : List Nat → Prop
  | [] => True
  | f :: r => IsGo P f ∧ TabOkF P r
def TabOk (P : Program) (T : Tab) : Prop := TabOkT P T.ts ∧ TabOkF P T.fs
def memN : List Nat → Nat → Bool
  | [], _ => false
  | x :: r, t => match Nat.beq x t with | true => true | false => memN r t

theorem TabOkT.get {P : Program} : ∀ {l : List (Nat × TI)}, TabOkT P l → ∀ {t i}, getT l t = some i →
    P.underlying t = some i.desc ∧ (P.info? t).map (fun j => (j.zero, j.size, j.bytes)) = some (some i.zero, i.size, i.bytes) ∧
      (i.flat = true → FlatOk P t i)
  | [], _, t, i, h => by simp [getT] at h
  | (n, j) :: r, hl, t, i, h => by
    unfold getT at h
    split at h
    · rename_i hn; simp at h; subst h; have := Nat.eq_of_beq_eq_true hn; subst this; exact hl.1
    · exact TabOkT.get hl.2 h
theorem TabOkF.get {P : Program} : ∀ {l : List Nat}, TabOkF P l → ∀ {f}, memN l f = true → IsGo P f
  | [], _, f, h => by simp [memN] at h
  | x :: r, hl, f, h => by
    unfold memN at h
    split at h
    · rename_i hn; have := Nat.eq_of_beq_eq_true hn; subst this; exact hl.1
    · exact TabOkF.get hl.2 h

section facts
variable {P : Program} {l : List (Nat × TI)} (h : TabOkT P l) {t : Nat} {i : TI} (hi : getT l t = some i) (w : World)
include h hi
theorem run_und : (Go.underlying t).run P w = Result.ok i.desc w := by
  have := (h.get hi).1
  simp [Go.underlying, this]
theorem info_of : ∃ j, P.info? t = some j ∧ j.zero = some i.zero ∧ j.size = i.size ∧ j.bytes = i.bytes := by
  have := (h.get hi).2.1
  cases hj : P.info? t with
  | none => rw [hj] at this; simp at this
  | some j => rw [hj] at this; simp at this; exact ⟨j, rfl, this.1, this.2.1, this.2.2⟩
theorem run_size : (Go.sizeOf t).run P w = Result.ok i.size w := by
  obtain ⟨j, hj, _, hs, _⟩ := info_of h hi
  simp [Go.sizeOf, typeInfo, hj, hs]
theorem run_zero : (zeroValue t).run P w = Result.ok i.zero w := by
  obtain ⟨j, hj, hz, _, _⟩ := info_of h hi
  simp [zeroValue, typeInfo, hj, hz]
end facts

/-! ### the pieces that a proof meets -/
structure Gd (b : Bool) (X Y : Prop) : Prop where
  of ::
  yes : b = true → X
  no : b = false → Y
structure Al (cs : List Value) (t : TypeId) (w : World) (k : Nat → World → Prop) : Prop where
  of ::
  out : k w.heap.size (w.alloc (.cells cs.toArray t))
inductive Ld (w : World) (p : Addr) (m : Nat) (k : List Value → Prop) : Prop where
  | intro (vs : List Value) (h1 : vs.length = m) (h2 : ∀ i v, vs[i]? = some v → w.cell? (p.add i) = some v) (h3 : k vs)
inductive Ld1 (w : World) (p : Addr) (k : Value → Prop) : Prop where
  | intro (v : Value) (h1 : w.cell? p = some v) (h2 : k v)
def setCells (w : World) (p : Addr) : List Value → Nat → World
  | [], _ => w
  | v :: r, i => setCells (w.setCell (p.add i) v) p r (i + 1)
structure St (w : World) (p : Addr) (vs : List Value) (k : World → Prop) : Prop where
  of ::
  one : ∀ v ∈ vs, v.oneCell' = true
  there : ∀ i, i < vs.length → (∃ u, w.cell? (p.add i) = some u) ∧ w.frozen? (p.add i) = false
  out : k (setCells w p vs 0)
def gA : Option Addr → Addr
  | some ad => ad
  | none => ⟨0, 0, none⟩
structure Ix (A : Option Addr) (len : Nat) (i : Int) (sz : Nat) (k : Addr → Prop) : Prop where
  of ::
  some : A ≠ none
  lo : 0 ≤ i
  hi : i < (len : Int)
  out : k ((gA A).add (i.toNat * sz))
structure Cl (P : Program) (f : Nat) (args : Array Value) (w : World) (k : Value → World → Prop) (X : List PanicEntry → World → Prop) : Prop where
  of ::
  out : Calls P f args w fun e w' => match e with | .returned v => k v w' | .panicked ch => X ch w' | .outgrown => False
structure Sm (P : Program) (s : Sem Value) (w : World) (k : Value → World → Prop) (X : List PanicEntry → World → Prop) : Prop where
  of ::
  out : match s.run P w with
  | .ok v w' => k v w'
  | .halt (.panic v) w' => X [{ v, recovered := false }] w'
  | _ => False
structure SmU (P : Program) (s : Sem Unit) (w : World) (k : World → Prop) (X : List PanicEntry → World → Prop) : Prop where
  of ::
  out : match s.run P w with
  | .ok _ w' => k w'
  | .halt (.panic v) w' => X [{ v, recovered := false }] w'
  | _ => False

/-! ### pure operations -/
def kEq : IntKind → IntKind → Bool
  | .i8, .i8 | .i16, .i16 | .i32, .i32 | .i64, .i64 | .u8, .u8 | .u16, .u16 | .u32, .u32 | .u64, .u64 => true
  | _, _ => false
theorem kEq_eq {a b : IntKind} (h : kEq a b = true) : a = b := by cases a <;> cases b <;> first | rfl | (simp [kEq] at h)

def puInt (op : BinOp) (k : IntKind) (a b : Int) : Option Value :=
  match op with
  | .add => some (.int k (k.wrap (a + b)))
  | .sub => some (.int k (k.wrap (a - b)))
  | .mul => some (.int k (k.wrap (a * b)))
  | .eql => some (.bool (a == b))
  | .neq => some (.bool (a != b))
  | .lss => some (.bool (a < b))
  | .leq => some (.bool (a ≤ b))
  | .gtr => some (.bool (a > b))
  | .geq => some (.bool (a ≥ b))
  | .and => some (.int k (k.wrap (BitVec.ofInt k.bits a &&& BitVec.ofInt k.bits b).toNat))
  | .or => some (.int k (k.wrap (BitVec.ofInt k.bits a ||| BitVec.ofInt k.bits b).toNat))
  | .xor => some (.int k (k.wrap (BitVec.ofInt k.bits a ^^^ BitVec.ofInt k.bits b).toNat))
  | .andNot => some (.int k (k.wrap (BitVec.ofInt k.bits a &&& ~~~ BitVec.ofInt k.bits b).toNat))
  | _ => none
def aggD : TypeDesc → Bool
  | .struct _ => true
  | .array _ _ => true
  | _ => false
def partF (T : List (Nat × TI)) (t : Nat) (cs : List Value) (off : Nat) : Option Value :=
  match getT T t with
  | none => none
  | some i => match aggD i.desc with
    | true => some (.agg ((cs.drop off).take i.size).toArray)
    | false => cs[off]?
def eqFs (T : List (Nat × TI)) (e : Nat → Value → Value → Option Bool) (xs ys : List Value) : List Field → Option Bool
  | [] => some true
  | f :: r => match partF T f.type xs f.offset with
    | none => none
    | some a => match partF T f.type ys f.offset with
      | none => none
      | some b => match e f.type a b with
        | none => none
        | some q => match r with
          | [] => some q
          | g :: r' => match eqFs T e xs ys (g :: r') with
            | none => none
            | some q' => some (q && q')
def eqF (T : List (Nat × TI)) : Nat → Nat → Value → Value → Option Bool
  | 0, _, _, _ => none
  | f + 1, t, x, y => match getT T t with
    | none => none
    | some i => match i.desc with
      | .int _ => match x with
        | .int k a => match y with
          | .int k' b => match kEq k k' with | true => some (a == b) | false => none
          | _ => none
        | _ => none
      | .bool => match x with
        | .bool a => match y with
          | .bool b => some (a == b)
          | _ => none
        | _ => none
      | .string => match x with
        | .string a => match y with
          | .string b => some (a == b)
          | _ => none
        | _ => none
      | .slice _ => match x with
        | .slice A _ _ => match y with
          | .slice B _ _ => match B with | none => some A.isNone | some _ => none
          | _ => none
        | _ => none
      | .pointer _ => match x with
        | .pointer A => match y with
          | .pointer B => match B with | none => some A.isNone | some _ => none
          | _ => none
        | _ => none
      | .map _ _ => match x with
        | .map A => match y with
          | .map B => match B with | none => some A.isNone | some _ => none
          | _ => none
        | _ => none
      | .interface _ => match x with
        | .iface _ _ => match y with
          | .nilIface => some false
          | _ => none
        | _ => none
      | .struct fs => match i.flat with
        | true => match x with
          | .agg xs => match y with
            | .agg ys => eqFs T (eqF T f) xs.toList ys.toList fs.toList
            | _ => none
          | _ => none
        | false => none
      | _ => none
def isC : Operand → Bool
  | .const _ => true
  | _ => false
def puBin (T : List (Nat × TI)) (op : BinOp) (t : Nat) (oy : Operand) (x y : Value) : Option Value :=
  match x with
  | .int k a => match y with
    | .int k' b => match kEq k k' with | true => puInt op k a b | false => none
    | _ => none
  | .string a => match y with
    | .string b => match op with
      | .eql => some (.bool (a == b))
      | .neq => some (.bool (!(a == b)))
      | _ => none
    | _ => none
  | .nilIface => match y with
    | .nilIface => match isC oy with
      | true => match getT T t with
        | some i => match i.desc with
          | .interface _ => match op with | .eql => some (.bool true) | .neq => some (.bool false) | _ => none
          | _ => none
        | none => none
      | false => none
    | _ => none
  | .float _ _ => none
  | .complex _ _ _ => none
  | _ => match op with
    | .eql => match eqF T 8 t x y with | some b => some (.bool b) | none => none
    | .neq => match eqF T 8 t x y with | some b => some (.bool (!b)) | none => none
    | _ => none

section eqn
variable {P : Program} (d : Nat) {t : Nat} (w : World)
theorem eqn_int {k' : IntKind} (k : IntKind) (a b : Int) (h : P.underlying t = some (.int k')) : (Op.equalIn (d + 1) t (.int k a) (.int k b)).run P w = Result.ok (a == b) w := by
  simp [Op.equalIn, Go.underlying, h]
theorem eqn_bool (a b : Bool) (h : P.underlying t = some .bool) : (Op.equalIn (d + 1) t (.bool a) (.bool b)).run P w = Result.ok (a == b) w := by
  simp [Op.equalIn, Go.underlying, h]
theorem eqn_str (a b : ByteArray) (h : P.underlying t = some .string) : (Op.equalIn (d + 1) t (.string a) (.string b)).run P w = Result.ok (a == b) w := by
  simp [Op.equalIn, Go.underlying, h]
theorem eqn_slice {e : Nat} (A : Option Addr) (n c n' c' : Nat) (h : P.underlying t = some (.slice e)) : (Op.equalIn (d + 1) t (.slice A n c) (.slice none n' c')).run P w = Result.ok A.isNone w := by
  cases A <;> simp [Op.equalIn, Go.underlying, h]
theorem eqn_ptr {e : Nat} (A : Option Addr) (h : P.underlying t = some (.pointer e)) : (Op.equalIn (d + 1) t (.pointer A) (.pointer none)).run P w = Result.ok A.isNone w := by
  cases A <;> simp [Op.equalIn, Go.underlying, h]
theorem eqn_map {k e : Nat} (A : Option Nat) (h : P.underlying t = some (.map k e)) : (Op.equalIn (d + 1) t (.map A) (.map none)).run P w = Result.ok A.isNone w := by
  cases A <;> simp [Op.equalIn, Go.underlying, h]
theorem eqn_iface {ms : Array (String × TypeId)} (u : Nat) (v : Value) (h : P.underlying t = some (.interface ms)) : (Op.equalIn (d + 1) t (.iface u v) .nilIface).run P w = Result.ok false w := by
  simp [Op.equalIn, Go.underlying, h]
theorem eqn_nil {ms : Array (String × TypeId)} (h : P.underlying t = some (.interface ms)) : (Op.equalIn (d + 1) t .nilIface .nilIface).run P w = Result.ok true w := by
  simp [Op.equalIn, Go.underlying, h]
end eqn
section sound
variable {P : Program} {T : List (Nat × TI)} (hT : TabOkT P T) (w : World)
include hT
theorem run_isAgg {t : Nat} {i : TI} (hi : getT T t = some i) : (isAgg t).run P w = Result.ok (aggD i.desc) w := by
  simp only [isAgg, Sem.run_bind, run_und hT hi, Result.andThen_ok]
  unfold aggD
  split <;> split <;> simp_all
theorem run_part {t : Nat} {cs : Array Value} {off : Nat} {v : Value} (h : partF T t cs.toList off = some v) : (part t cs off).run P w = Result.ok v w := by
  unfold partF at h
  split at h
  · simp at h
  · rename_i i hi
    simp only [part, Sem.run_bind, run_isAgg hT w hi, Result.andThen_ok]
    split at h
    · rename_i ha
      simp only [ha, if_true, Sem.run_bind, run_size hT hi w, Result.andThen_ok, Sem.run_pure]
      simp only [Option.some.injEq] at h
      rw [← h]
      congr 2
      apply Array.ext'
      simp [Array.toList_extract]
    · rename_i ha
      simp only [ha, Bool.false_eq_true, if_false]
      have : cs[off]? = some v := by rw [← h]; simp
      rw [this]; rfl
theorem run_eqFs {e : Nat → Value → Value → Option Bool} {d : Nat} (he : ∀ t x y b w, e t x y = some b → (Op.equalIn d t x y).run P w = Result.ok b w)
    (xs ys : Array Value) : ∀ (fs : List Field) (b : Bool) (w : World), fs.all (fun f => f.name != "_") = true → eqFs T e xs.toList ys.toList fs = some b →
      (Op.eqFields d xs ys fs).run P w = Result.ok b w
  | [], b, w, _, h => by simp [eqFs] at h; subst h; simp [Op.eqFields]
  | f :: r, b, w, hn, h => by
    unfold eqFs at h
    simp only [List.all_cons, Bool.and_eq_true, bne_iff_ne, ne_eq] at hn
    split at h; · simp at h
    rename_i a ha
    split at h; · simp at h
    rename_i c hc
    split at h; · simp at h
    rename_i q hq
    have ih := run_eqFs he xs ys r
    simp only [Op.eqFields, ne_eq, hn.1, not_false_eq_true, if_true, Sem.run_bind, run_part hT w ha, run_part hT w hc, Result.andThen_ok, he _ _ _ _ w hq]
    split at h
    · simp at h; subst h; cases q <;> simp [Op.eqFields]
    · rename_i g r'
      split at h; · simp at h
      rename_i q' hq'
      simp at h; subst h
      cases q
      · simp
      · have := ih q' w (by simpa using hn.2) hq'
        simpa using this
theorem run_eqF : ∀ (f d : Nat), f ≤ d → ∀ (t : Nat) (x y : Value) (b : Bool) (w : World), eqF T f t x y = some b → (Op.equalIn d t x y).run P w = Result.ok b w
  | 0, _, _, _, _, _, _, _, h => by simp [eqF] at h
  | f + 1, 0, hd, _, _, _, _, _, _ => by omega
  | f + 1, d + 1, hd, t, x, y, b, w, h => by
    unfold eqF at h
    cases hi : getT T t with
    | none => rw [hi] at h; simp at h
    | some i =>
      rw [hi] at h
      have hu := (hT.get hi).1
      have ih := run_eqF f d (by omega)
      have hfl := (hT.get hi).2.2
      obtain ⟨desc, size, bytes, zero, flat⟩ := i
      simp only at h hu hfl
      cases desc with
      | int k0 =>
        cases x <;> try (simp at h; done)
        cases y <;> try (simp at h; done)
        simp only at h
        split at h <;> simp at h
        rename_i hk; have := kEq_eq hk; subst this; subst h
        exact eqn_int d w _ _ _ hu
      | bool =>
        cases x <;> try (simp at h; done)
        cases y <;> try (simp at h; done)
        simp only [Option.some.injEq] at h; subst h
        exact eqn_bool d w _ _ hu
      | string =>
        cases x <;> try (simp at h; done)
        cases y <;> try (simp at h; done)
        simp only [Option.some.injEq] at h; subst h
        exact eqn_str d w _ _ hu
      | slice e =>
        cases x <;> try (simp at h; done)
        cases y <;> try (simp at h; done)
        rename_i B _ _
        cases B <;> simp at h
        subst h
        exact eqn_slice d w _ _ _ _ _ hu
      | pointer e =>
        cases x <;> try (simp at h; done)
        cases y <;> try (simp at h; done)
        rename_i B
        cases B <;> simp at h
        subst h
        exact eqn_ptr d w _ hu
      | map k e =>
        cases x <;> try (simp at h; done)
        cases y <;> try (simp at h; done)
        rename_i B
        cases B <;> simp at h
        subst h
        exact eqn_map d w _ hu
      | interface ms =>
        cases x <;> try (simp at h; done)
        cases y <;> try (simp at h; done)
        simp at h
        subst h
        exact eqn_iface d w _ _ hu
      | struct fs =>
        cases flat <;> try (simp at h; done)
        cases x <;> try (simp at h; done)
        cases y <;> try (simp at h; done)
        obtain ⟨_, h2, h3⟩ := hfl rfl
        have hfo : P.fieldsOf t = fs := by simp [Program.fieldsOf, hu]
        rw [run_equalIn_struct w d t _ _ (by rw [hfo]; exact hu) h2, hfo]
        exact run_eqFs hT ih _ _ _ _ _ h3 h
      | _ => simp at h

omit hT in
theorem run_guardless {op : BinOp} {t : Nat} {xo yo : Operand} {x y : Value} (h1 : ¬ (x = .nilIface ∧ y = .nilIface)) (h2 : ∀ a b, x = .agg a → y = .agg b → P.eqGuardType P.depth t = false) :
    (eqGuard op t xo yo x y).run P w = Result.ok () w := by
  unfold eqGuard
  cases op <;> simp only [Bool.not_true, Bool.not_false, if_true, Bool.false_eq_true, if_false] <;> first
    | rfl
    | (split
       · exact absurd ⟨rfl, rfl⟩ h1
       · simp [h2 _ _ rfl rfl]
       · rfl)
omit hT in
theorem puInt_sound {op : BinOp} {t : Nat} {k : IntKind} {a b : Int} {v : Value} (h : puInt op k a b = some v) : (binOp op t (.int k a) (.int k b)).run P w = Result.ok v w := by
  cases op <;> simp only [puInt, Option.some.injEq, reduceCtorEq] at h
  all_goals first
    | (subst h; simp [binOp, Op.intArith, Op.intCmp, Op.intBits]; done)
    | (subst h; simp [binOp, Op.intArith, Op.intCmp, Op.intBits]; rfl)
omit hT in
theorem binOp_eql {t : Nat} {x y : Value} (h1 : ∀ k a, x ≠ .int k a) (h2 : ∀ k a, x ≠ .float k a) (h3 : ∀ k a b, x ≠ .complex k a b) (h4 : ∀ a, x ≠ .string a) :
    binOp .eql t x y = (do pure (.bool (← Op.equal t x y))) := by
  unfold binOp
  split <;> first | rfl | (exact absurd rfl (h1 _ _)) | (exact absurd rfl (h2 _ _)) | (exact absurd rfl (h3 _ _ _)) | (exact absurd rfl (h4 _)) | simp_all
omit hT in
theorem binOp_neq {t : Nat} {x y : Value} (h1 : ∀ k a, x ≠ .int k a) (h2 : ∀ k a, x ≠ .float k a) (h3 : ∀ k a b, x ≠ .complex k a b) (h4 : ∀ a, x ≠ .string a) :
    binOp .neq t x y = (do pure (.bool (!(← Op.equal t x y)))) := by
  unfold binOp
  split <;> first | rfl | (exact absurd rfl (h1 _ _)) | (exact absurd rfl (h2 _ _)) | (exact absurd rfl (h3 _ _ _)) | (exact absurd rfl (h4 _)) | simp_all
theorem eqF_agg {t : Nat} {a b : Array Value} {q : Bool} (h : eqF T 8 t (.agg a) (.agg b) = some q) : P.eqGuardType P.depth t = false := by
  unfold eqF at h
  cases hi : getT T t with
  | none => rw [hi] at h; simp at h
  | some i =>
    rw [hi] at h
    have hfl := (hT.get hi).2.2
    obtain ⟨desc, size, bytes, zero, flat⟩ := i
    simp only at h hfl
    cases desc <;> try (simp at h; done)
    cases flat <;> try (simp at h; done)
    exact (hfl rfl).1
omit hT in
theorem eqF_nn {t : Nat} {q : Bool} (h : eqF T 8 t .nilIface .nilIface = some q) : False := by
  unfold eqF at h
  cases hi : getT T t with
  | none => rw [hi] at h; simp at h
  | some i =>
    rw [hi] at h
    obtain ⟨desc, size, bytes, zero, flat⟩ := i
    simp only at h
    cases desc <;> try (simp at h; done)
    cases flat <;> simp at h
theorem puBin_gen {op : BinOp} {t : Nat} {xo yo : Operand} {x y v : Value} (h1 : ∀ k a, x ≠ .int k a) (h2 : ∀ k a, x ≠ .float k a) (h3 : ∀ k a b, x ≠ .complex k a b) (h4 : ∀ a, x ≠ .string a)
    (h : (match op with
    | .eql => match eqF T 8 t x y with | some b => some (Value.bool b) | none => none
    | .neq => match eqF T 8 t x y with | some b => some (.bool (!b)) | none => none
    | _ => none) = some v) : (do eqGuard op t xo yo x y; binOp op t x y : Sem Value).run P w = Result.ok v w := by
  have main : ∀ q, eqF T 8 t x y = some q → (eqGuard op t xo yo x y).run P w = Result.ok () w ∧ (Op.equal t x y).run P w = Result.ok q w := fun q hq => by
    refine ⟨run_guardless w (fun ⟨e1, e2⟩ => ?_) (fun a b e1 e2 => ?_), run_eqF hT 8 10000 (by omega) _ _ _ _ _ hq⟩
    · subst e1; subst e2; exact eqF_nn hq
    · subst e1; subst e2; exact eqF_agg hT hq
  split at h
  · split at h <;> simp at h
    rename_i q hq
    subst h
    obtain ⟨m1, m2⟩ := main q hq
    simp [m1, binOp_eql h1 h2 h3 h4, m2]
  · split at h <;> simp at h
    rename_i q hq
    subst h
    obtain ⟨m1, m2⟩ := main q hq
    simp [m1, binOp_neq h1 h2 h3 h4, m2]
  · simp at h
omit hT in
theorem beq_toL (a b : ByteArray) : (a == b) = (a.toList == b.toList) := beq_toListBytes a b
theorem puBin_sound {op : BinOp} {t : Nat} {xo yo : Operand} {x y v : Value} (h : puBin T op t yo x y = some v) :
    (do eqGuard op t xo yo x y; binOp op t x y : Sem Value).run P w = Result.ok v w := by
  unfold puBin at h
  cases x with
  | int k a =>
    cases y <;> try (simp at h; done)
    rename_i k2 b
    simp only at h
    split at h <;> try (simp at h; done)
    rename_i hk; have := kEq_eq hk; subst this
    have hg := run_guardless (P := P) w (op := op) (t := t) (xo := xo) (yo := yo) (x := .int k a) (y := .int k b) (by simp) (by simp)
    simp [hg, puInt_sound w h]
  | string a =>
    cases y <;> try (simp at h; done)
    rename_i b
    have hg := run_guardless (P := P) w (op := op) (t := t) (xo := xo) (yo := yo) (x := .string a) (y := .string b) (by simp) (by simp)
    simp only at h
    split at h <;> simp at h <;> subst h <;> simp [hg, binOp, Op.stringOp, beq_toL]
  | nilIface =>
    cases y <;> try (simp at h; done)
    simp only at h
    split at h <;> try (simp at h; done)
    rename_i hc
    split at h <;> try (simp at h; done)
    rename_i i hi
    have hu := (hT.get hi).1
    split at h <;> try (simp at h; done)
    rename_i ms hd
    rw [hd] at hu
    have hy : ∃ v, yo = .const v := by cases yo <;> simp [isC] at hc ⊢
    obtain ⟨cv, rfl⟩ := hy
    have hq : (Op.equal t .nilIface .nilIface).run P w = Result.ok true w := eqn_nil 9999 w hu
    have hg : ∀ op, (eqGuard op t xo (.const cv) .nilIface .nilIface).run P w = Result.ok () w := fun op => by
      unfold eqGuard
      cases op <;> simp
    split at h <;> simp at h <;> subst h
    · simp [hg, binOp_eql (t := t) (x := .nilIface) (y := .nilIface) (by simp) (by simp) (by simp) (by simp), hq]
    · simp [hg, binOp_neq (t := t) (x := .nilIface) (y := .nilIface) (by simp) (by simp) (by simp) (by simp), hq]
  | float => simp at h
  | complex => simp at h
  | bool _ => exact puBin_gen hT w (by simp) (by simp) (by simp) (by simp) h
  | pointer _ => exact puBin_gen hT w (by simp) (by simp) (by simp) (by simp) h
  | slice _ _ _ => exact puBin_gen hT w (by simp) (by simp) (by simp) (by simp) h
  | map _ => exact puBin_gen hT w (by simp) (by simp) (by simp) (by simp) h
  | chan _ => exact puBin_gen hT w (by simp) (by simp) (by simp) (by simp) h
  | func _ _ _ => exact puBin_gen hT w (by simp) (by simp) (by simp) (by simp) h
  | nilFunc => exact puBin_gen hT w (by simp) (by simp) (by simp) (by simp) h
  | iface _ _ => exact puBin_gen hT w (by simp) (by simp) (by simp) (by simp) h
  | agg _ => exact puBin_gen hT w (by simp) (by simp) (by simp) (by simp) h
  | tuple _ => exact puBin_gen hT w (by simp) (by simp) (by simp) (by simp) h
end sound
end Go.Sh
