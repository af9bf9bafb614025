/- own work: TxG, TzA, TzB, TzC, TzD, TyF, TzE, TxH, TyG, TzF, TzG -/
import GoSem.Op.String
import Derived.Test.YtfnjodpehomgfaaGreatDoorMQ2
set_option linter.unusedVariables false
set_option linter.unusedSimpArgs false
set_option linter.unusedSectionVars false
namespace Go.Tx
def k_bad : Bs := [98, 97, 100]
def k_least : Bs := [108, 101, 97, 115, 116]
def rKind (t : Tk) : Bs := if t.err ≠ 0 then k_bad else if t.kind = k_number ∧ t.n = -9223372036854775808 then k_least else t.kind
def rText (src : Bs) (t : Tk) : Bs := if t.err = 140 then (src.drop t.at_).take 1 else t.text
def chk (ts : List Tk) : Res Unit := match ts with
  | t :: r => if t.err ≠ 0 then .err t.err t.at_ else if t.kind = k_number ∧ t.n = -9223372036854775808 then .err 143 t.at_ else .ok () (t :: r)
  | [] => .out
structure RS where
  ts : List Tk
  sp : Option (Int × Nat)
def Doom (e : Int) (p : Nat) (s : RS) : Prop := s.sp = some (e, p) ∨ (s.sp = none ∧ chk s.ts = .err e p)
def AtC {α : Type} (R : Res α) (s : RS) : Prop := match R with
  | .ok _ ts => s.sp = none ∧ s.ts = ts ∧ chk ts = .ok () ts
  | .err e p => Doom e p s
  | .out => True
structure AtR {α : Type} (R : Res α) (s : RS) : Prop where
  ends : Ends s.ts
  at_ : AtC R s
theorem chk_ok {ts : List Tk} (h : chk ts = .ok () ts) : rKind (curT ts) = curK ts ∧ (curT ts).err = 0 ∧ ¬ ((curT ts).kind = k_number ∧ (curT ts).n = -9223372036854775808) := by
  cases ts with
  | nil => simp [chk] at h
  | cons t r =>
    simp only [chk] at h
    split at h
    · simp at h
    · rename_i h1
      split at h
      · simp at h
      · rename_i h2
        refine ⟨?_, Classical.not_not.1 h1, h2⟩
        show rKind t = t.kind
        unfold rKind
        rw [if_neg h1, if_neg h2]
theorem chk_err {ts : List Tk} {e : Int} {p : Nat} (h : chk ts = .err e p) : (rKind (curT ts) = k_bad ∨ rKind (curT ts) = k_least) ∧ p = (curT ts).at_ ∧ e = (if (curT ts).err ≠ 0 then (curT ts).err else 143) ∧ ((curT ts).err = 0 → rKind (curT ts) = k_least) := by
  cases ts with
  | nil => simp [chk] at h
  | cons t r =>
    simp only [chk] at h
    show (rKind t = k_bad ∨ rKind t = k_least) ∧ p = t.at_ ∧ e = (if t.err ≠ 0 then t.err else 143) ∧ (t.err = 0 → rKind t = k_least)
    split at h
    · rename_i h1
      simp only [Res.err.injEq] at h
      refine ⟨.inl (by unfold rKind; rw [if_pos h1]), h.2.symm, by rw [if_pos h1]; exact h.1.symm, fun h2 => absurd h2 h1⟩
    · rename_i h1
      split at h
      · rename_i h2
        simp only [Res.err.injEq] at h
        have hk : rKind t = k_least := by unfold rKind; rw [if_neg h1, if_pos h2]
        exact ⟨.inr hk, h.2.symm, by rw [if_neg h1]; exact h.1.symm, fun _ => hk⟩
      · simp at h
theorem chk_cases {ts : List Tk} (h : Ends ts) : chk ts = .ok () ts ∨ ∃ e p, chk ts = .err e p := by
  cases ts with
  | nil => exact h.elim
  | cons t r =>
    simp only [chk]
    split
    · exact .inr ⟨_, _, rfl⟩
    · split
      · exact .inr ⟨_, _, rfl⟩
      · exact .inl rfl
theorem step_chk {t : Tk} {r : List Tk} : stepP false (t :: r) = chk r := by
  cases r with
  | nil => rfl
  | cons u r => simp [stepP, chk]
theorem step_at {ts : List Tk} (h : Ends ts) (hg : chk ts = .ok () ts) (hk : curK ts ≠ k_end) : AtR (stepP false ts) ⟨ts.tail, none⟩ := by
  obtain ⟨h1, h2, h3⟩ := chk_ok hg
  obtain ⟨t, u, r, rfl⟩ := Way.ne ⟨h, h2⟩ hk
  have he : Ends (u :: r) := h
  rw [step_chk]
  refine ⟨he, ?_⟩
  rcases chk_cases he with hc | ⟨e, p, hc⟩
  · rw [hc]; exact ⟨rfl, rfl, hc⟩
  · rw [hc]; exact .inr ⟨rfl, hc⟩
def wrongE (e : Int) (t : Tk) : Int × Nat := (if t.err ≠ 0 then t.err else if rKind t = k_least then 143 else e, t.at_)
def wrongR (e : Int) (s : RS) : RS := match s.sp with
  | some _ => s
  | none => ⟨s.ts, some (wrongE e (curT s.ts))⟩
def takeR (k : Bs) (s : RS) : RS := match s.sp with
  | some _ => s
  | none => if rKind (curT s.ts) = k then ⟨s.ts.tail, none⟩ else wrongR 141 s
def isR (k : Bs) (s : RS) : Bool := match s.sp with
  | some _ => false
  | none => rKind (curT s.ts) == k
theorem wrong_doom {s : RS} {e0 e : Int} {p : Nat} (h : Doom e p s) : wrongR e0 s = ⟨s.ts, some (e, p)⟩ := by
  obtain ⟨ts, sp⟩ := s
  rcases h with h | ⟨h1, h2⟩
  · simp only at h; subst h; rfl
  · simp only at h1 h2; subst h1
    obtain ⟨g1, g2, g3, g4⟩ := chk_err h2
    simp only [wrongR, wrongE, g2, g3]
    split
    · rfl
    · rename_i h0
      rw [if_pos (g4 (Classical.not_not.1 h0))]
theorem wrong_good {s : RS} {e0 : Int} (h1 : s.sp = none) (h2 : chk s.ts = .ok () s.ts) (hl : curK s.ts ≠ k_least) : wrongR e0 s = ⟨s.ts, some (e0, (curT s.ts).at_)⟩ := by
  obtain ⟨ts, sp⟩ := s
  simp only at h1 h2 hl ⊢
  subst h1
  obtain ⟨g1, g2, g3⟩ := chk_ok h2
  simp only [wrongR, wrongE]
  rw [if_neg (fun e => e g2), if_neg (by rw [g1]; exact hl)]
theorem wrong_ts (e : Int) (s : RS) : (wrongR e s).ts = s.ts := by
  unfold wrongR
  split <;> rfl
def Plain (ts : List Tk) : Prop := curK ts ≠ k_least ∧ curK ts ≠ k_bad
def Pls (ts : List Tk) : Prop := ∀ t ∈ ts, t.kind ≠ k_least ∧ t.kind ≠ k_bad
theorem Pls.cur {ts : List Tk} (h : Pls ts) : Plain ts := by
  cases ts with
  | nil => exact ⟨by decide, by decide⟩
  | cons t r => exact h t (by simp)
theorem take_at {k : Bs} {α : Type} {R : Res α} {s : RS} (h : AtR R s) (hp : Pls s.ts) (hk : k ≠ k_end) (h1 : k ≠ k_bad) (h2 : k ≠ k_least) : AtR (R.bind fun _ ts => takeP k ts) (takeR k s) := by
  obtain ⟨he, ha⟩ := h
  cases R with
  | out =>
    refine ⟨?_, trivial⟩
    unfold takeR
    split
    · exact he
    · split
      · rename_i hs hr
        have hf : (curT s.ts).err = 0 := by
          apply Classical.byContradiction
          intro e
          unfold rKind at hr
          rw [if_pos e] at hr
          exact h1 hr.symm
        have hkk : curK s.ts ≠ k_end := fun e => by
          have : rKind (curT s.ts) = (curT s.ts).kind ∨ rKind (curT s.ts) = k_least := by
            unfold rKind
            rw [if_neg (fun h => h hf)]
            split
            · exact .inr rfl
            · exact .inl rfl
          rcases this with h | h
          · rw [hr] at h
            cases hts : s.ts with
            | nil => rw [hts] at he; exact he
            | cons t r => rw [hts] at h e; exact hk (h.trans e)
          · exact h2 (hr.symm.trans h)
        obtain ⟨t, u, r, hts⟩ := Way.ne ⟨he, hf⟩ hkk
        rw [hts] at he ⊢
        exact he
      · rw [wrong_ts]; exact he
  | err e p =>
    have ha : Doom e p s := ha
    have : takeR k s = ⟨s.ts, some (e, p)⟩ := by
      unfold takeR
      split
      · rename_i x hx
        rcases ha with h | ⟨h, _⟩
        · obtain ⟨ts, sp⟩ := s; simp only at h; subst h; rfl
        · rw [hx] at h; cases h
      · rename_i hx
        rw [if_neg, wrong_doom ha]
        intro hr
        rcases ha with h | ⟨_, h⟩
        · rw [hx] at h; cases h
        · rcases (chk_err h).1 with g | g
          · exact h1 (hr.symm.trans g)
          · exact h2 (hr.symm.trans g)
    rw [this]
    exact ⟨he, .inl rfl⟩
  | ok a ts =>
    obtain ⟨h3, h4, h5⟩ := ha
    obtain ⟨ts', sp⟩ := s
    simp only at h3 h4 he hp
    subst h3 h4
    obtain ⟨g1, g2, g3⟩ := chk_ok h5
    show AtR (takeP k ts') _
    unfold takeP takeR
    simp only
    by_cases hc : curK ts' = k
    · rw [if_neg (fun e => e hc), if_pos (g1.trans hc)]
      have := step_at he h5 (by rw [hc]; exact hk)
      obtain ⟨q1, q2⟩ := this
      refine ⟨q1, ?_⟩
      revert q2
      cases stepP false ts' <;> exact id
    · rw [if_pos hc, if_neg (by rw [g1]; exact hc)]
      rw [wrong_good rfl h5 hp.cur.1]
      exact ⟨he, .inl rfl⟩
theorem take_val {k : Bs} {α : Type} {R : Res α} {s : RS} {t : Tk} {ts' : List Tk} (h : AtR R s) (hR : (R.bind fun _ ts => takeP k ts) = .ok t ts') : t = curT s.ts ∧ s.sp = none ∧ rKind (curT s.ts) = k ∧ (curT s.ts).err = 0 := by
  obtain ⟨he, ha⟩ := h
  cases R with
  | out => simp [Res.bind] at hR
  | err e p => simp [Res.bind] at hR
  | ok a ts =>
    obtain ⟨h3, h4, h5⟩ := ha
    obtain ⟨g1, g2, g3⟩ := chk_ok h5
    have hR : takeP k ts = .ok t ts' := hR
    unfold takeP at hR
    split at hR
    · simp at hR
    · rename_i hc
      have hc := Classical.not_not.1 hc
      cases hs : stepP false ts with
      | out => rw [hs] at hR; simp [Res.bind] at hR
      | err e p => rw [hs] at hR; simp [Res.bind] at hR
      | ok b ts2 =>
        rw [hs] at hR
        simp only [Res.bind, Res.ok.injEq] at hR
        rw [h4]
        exact ⟨hR.1.symm, h3, g1.trans hc, g2⟩
theorem is_ok {k : Bs} {α : Type} {a : α} {ts : List Tk} {s : RS} (h : AtR (.ok a ts) s) : isR k s = (curK ts == k) := by
  obtain ⟨he, h3, h4, h5⟩ := h
  obtain ⟨ts', sp⟩ := s
  simp only at h3 h4
  subst h3 h4
  simp only [isR, (chk_ok h5).1]
theorem is_err {k : Bs} {α : Type} {e : Int} {p : Nat} {s : RS} (h : AtR (.err e p : Res α) s) (h1 : k ≠ k_bad) (h2 : k ≠ k_least) : isR k s = false := by
  obtain ⟨he, ha⟩ := h
  obtain ⟨ts', sp⟩ := s
  rcases ha with h | ⟨h, h3⟩
  · simp only at h; subst h; rfl
  · simp only at h h3; subst h
    simp only [isR, beq_eq_false_iff_ne]
    intro hr
    rcases (chk_err h3).1 with g | g
    · exact h1 (hr.symm.trans g)
    · exact h2 (hr.symm.trans g)
theorem stepP_bind_eq {k : Bs} {ts : List Tk} (h : curK ts = k) {β : Type} (g : List Tk → Res β) : ((takeP k ts).bind fun _ ts1 => g ts1) = (stepP false ts).bind fun _ ts1 => g ts1 := by
  unfold takeP
  rw [if_neg (fun e => e h)]
  cases stepP false ts <;> rfl
theorem take_no {k : Bs} {ts : List Tk} (h : curK ts ≠ k) {β : Type} (g : Tk → List Tk → Res β) : (takeP k ts).bind g = .err 141 (curT ts).at_ := by
  unfold takeP
  rw [if_pos h]; rfl
def argsR (F : PF) (d : Nat) : Nat → List Ex → List Tk → Res (List Ex)
  | 0, _, _ => .out
  | n + 1, l, ts => if curK ts = s_comma then (stepP false ts).bind fun _ ts1 => (F.expr 0 d ts1).bind fun e ts2 => argsR F d n (l ++ [e]) ts2
    else (takeP s_rp ts).bind fun _ ts1 => .ok l ts1
theorem args_R (F : PF) (d : Nat) : ∀ (n : Nat) (l : List Ex) (ts : List Tk), l ≠ [] → argsP F d n l ts = argsR F d n l ts
  | 0, _, _, _ => rfl
  | n + 1, l, ts, hl => by
    unfold argsP argsR
    have hl0 : l.length ≠ 0 := fun e => hl (List.eq_nil_of_length_eq_zero e)
    by_cases h1 : curK ts = s_rp
    · rw [if_pos h1, if_neg (by rw [h1]; decide)]
    · rw [if_neg h1, if_pos hl0]
      have hb : ∀ {γ : Type} (g : List Tk → Res γ), (((takeP s_comma ts).bind fun _ ts1 => (.ok () ts1 : Res Unit)).bind fun _ ts1 => g ts1) = (takeP s_comma ts).bind fun _ ts1 => g ts1 := fun g => by cases takeP s_comma ts <;> rfl
      rw [hb]
      by_cases h2 : curK ts = s_comma
      · rw [if_pos h2, stepP_bind_eq h2]
        congr 1
        funext _ ts1
        congr 1
        funext e ts2
        exact args_R F d n (l ++ [e]) ts2 (by simp)
      · rw [if_neg h2, take_no h2, take_no h1]
def namesR : Nat → List Bs → List Tk → Res (List Bs)
  | 0, _, _ => .out
  | n + 1, l, ts => if curK ts = s_comma then (stepP false ts).bind fun _ ts1 => (takeP k_name ts1).bind fun t ts2 => namesR n (l ++ [t.text]) ts2
    else (takeP s_rp ts).bind fun _ ts1 => .ok l ts1
theorem names_R : ∀ (n : Nat) (l : List Bs) (ts : List Tk), l ≠ [] → ((loopN n l ts).bind fun ps ts1 => (takeP s_rp ts1).bind fun _ ts2 => .ok ps ts2) = namesR n l ts
  | 0, _, _, _ => rfl
  | n + 1, l, ts, hl => by
    unfold loopN namesR
    have hl0 : l.length ≠ 0 := fun e => hl (List.eq_nil_of_length_eq_zero e)
    by_cases h1 : curK ts = s_rp
    · rw [if_pos h1, if_neg (by rw [h1]; decide)]; rfl
    · rw [if_neg h1, if_pos hl0]
      have hb : ∀ {γ : Type} (g : List Tk → Res γ), (((takeP s_comma ts).bind fun _ ts1 => (.ok () ts1 : Res Unit)).bind fun _ ts1 => g ts1) = (takeP s_comma ts).bind fun _ ts1 => g ts1 := fun g => by cases takeP s_comma ts <;> rfl
      have ha : ∀ {β γ δ : Type} (r : Res β) (g : β → List Tk → Res γ) (q : γ → List Tk → Res δ), (r.bind g).bind q = r.bind fun a ts => (g a ts).bind q := fun r g q => by cases r <;> rfl
      rw [hb]
      by_cases h2 : curK ts = s_comma
      · rw [if_pos h2, stepP_bind_eq h2, ha]
        congr 1
        funext _ ts1
        rw [ha]
        congr 1
        funext t ts2
        exact names_R n (l ++ [t.text]) ts2 (by simp)
      · rw [if_neg h2, take_no h2, take_no h1]; rfl
theorem val_cons (c : UInt8) (r : Bs) : val (c :: r) = (c.toNat - 48) * 10 ^ r.length + val r := by
  have key : ∀ (r : Bs) (v : Nat), r.foldl (fun v c => v * 10 + (c.toNat - 48)) v = v * 10 ^ r.length + val r := by
    intro r
    induction r with
    | nil => intro v; simp [val]
    | cons x r ih =>
      intro v
      have h1 : val (x :: r) = r.foldl (fun v c => v * 10 + (c.toNat - 48)) (0 * 10 + (x.toNat - 48)) := rfl
      rw [h1, List.foldl_cons, ih, ih, List.length_cons, Nat.pow_succ]
      rw [Nat.add_mul, Nat.add_mul]
      have : v * 10 * 10 ^ r.length = v * (10 ^ r.length * 10) := by rw [Nat.mul_assoc, Nat.mul_comm 10]
      omega
  have h1 : val (c :: r) = r.foldl (fun v c => v * 10 + (c.toNat - 48)) (0 * 10 + (c.toNat - 48)) := rfl
  rw [h1, key]
  congr 2
  omega
theorem val_lt : ∀ {s : Bs}, Digs s → val s < 10 ^ s.length
  | [], _ => by simp [val]
  | c :: r, h => by
    have h1 := val_lt (s := r) fun x hx => h x (by simp [hx])
    have h2 := dig_range (h c (by simp))
    rw [val_cons, List.length_cons, Nat.pow_succ]
    have : (c.toNat - 48) * 10 ^ r.length ≤ 9 * 10 ^ r.length := Nat.mul_le_mul_right _ (by omega)
    omega
theorem less_val : ∀ {a b : Bs}, Digs a → Digs b → a.length = b.length → (Op.bytesLess a b = true ↔ val a < val b)
  | [], [], _, _, _ => by simp [Op.bytesLess, val]
  | [], _ :: _, _, _, h => by simp at h
  | _ :: _, [], _, _, h => by simp at h
  | x :: a, y :: b, ha, hb, h => by
    have hl : a.length = b.length := by simpa using h
    have ha' : Digs a := fun c hc => ha c (by simp [hc])
    have hb' : Digs b := fun c hc => hb c (by simp [hc])
    have ih := less_val ha' hb' hl
    have h1 := dig_range (ha x (by simp))
    have h2 := dig_range (hb y (by simp))
    have l1 := val_lt ha'
    have l2 := val_lt hb'
    rw [val_cons, val_cons, Op.bytesLess, hl]
    rw [hl] at l1
    simp only [Bool.or_eq_true, decide_eq_true_eq, Bool.and_eq_true, beq_iff_eq, ih]
    have hxy : x < y ↔ x.toNat < y.toNat := UInt8.lt_iff_toNat_lt
    rw [hxy]
    constructor
    · rintro (h | ⟨rfl, h⟩)
      · have : (x.toNat - 48 + 1) * 10 ^ b.length ≤ (y.toNat - 48) * 10 ^ b.length := Nat.mul_le_mul_right _ (by omega)
        rw [Nat.add_mul] at this
        omega
      · omega
    · intro h
      rcases Nat.lt_trichotomy x.toNat y.toNat with h3 | h3 | h3
      · exact .inl h3
      · refine .inr ⟨UInt8.toNat_inj.1 h3, ?_⟩
        rw [h3] at h
        omega
      · exfalso
        have : (y.toNat - 48 + 1) * 10 ^ b.length ≤ (x.toNat - 48) * 10 ^ b.length := Nat.mul_le_mul_right _ (by omega)
        rw [Nat.add_mul] at this
        omega
theorem val_inj : ∀ {a b : Bs}, Digs a → Digs b → a.length = b.length → val a = val b → a = b
  | [], [], _, _, _, _ => rfl
  | [], _ :: _, _, _, h, _ => by simp at h
  | _ :: _, [], _, _, h, _ => by simp at h
  | x :: a, y :: b, ha, hb, h, hv => by
    have hl : a.length = b.length := by simpa using h
    have ha' : Digs a := fun c hc => ha c (by simp [hc])
    have hb' : Digs b := fun c hc => hb c (by simp [hc])
    have h1 := dig_range (ha x (by simp))
    have h2 := dig_range (hb y (by simp))
    have l1 := val_lt ha'
    have l2 := val_lt hb'
    rw [val_cons, val_cons, hl] at hv
    rw [hl] at l1
    have hx : x.toNat = y.toNat := by
      rcases Nat.lt_trichotomy x.toNat y.toNat with h3 | h3 | h3
      · have : (x.toNat - 48 + 1) * 10 ^ b.length ≤ (y.toNat - 48) * 10 ^ b.length := Nat.mul_le_mul_right _ (by omega)
        rw [Nat.add_mul] at this
        omega
      · exact h3
      · have : (y.toNat - 48 + 1) * 10 ^ b.length ≤ (x.toNat - 48) * 10 ^ b.length := Nat.mul_le_mul_right _ (by omega)
        rw [Nat.add_mul] at this
        omega
    obtain rfl := UInt8.toNat_inj.1 hx
    rw [val_inj ha' hb' hl (by omega)]
def mostB : Bs := [57, 50, 50, 51, 51, 55, 50, 48, 51, 54, 56, 53, 52, 55, 55, 53, 56, 48, 55]
def leastB : Bs := [57, 50, 50, 51, 51, 55, 50, 48, 51, 54, 56, 53, 52, 55, 55, 53, 56, 48, 56]
def leB (a b : Bs) : Bool := Op.bytesLess a b || a == b
theorem le_val {a b : Bs} (ha : Digs a) (hb : Digs b) (h : a.length = b.length) : leB a b = true ↔ val a ≤ val b := by
  unfold leB
  rw [Bool.or_eq_true, less_val ha hb h, beq_iff_eq]
  constructor
  · rintro (h | rfl)
    · omega
    · omega
  · intro h2
    rcases Nat.lt_or_eq_of_le h2 with h3 | h3
    · exact .inl h3
    · exact .inr (val_inj ha hb h h3)
theorem digs_most : Digs mostB := by unfold Digs; decide
theorem digs_least : Digs leastB := by unfold Digs; decide
theorem val_most : val mostB = 9223372036854775807 := by decide
theorem val_least : val leastB = 9223372036854775808 := by decide
theorem num_bad {s : Bs} {p : Nat} (h : (1 < s.length ∧ s.head?.map UInt8.toNat = some 48) ∨ 19 < s.length) : number s p = ⟨k_number, s, p, 0, 143⟩ := by
  have h0 : s ≠ [48] := by
    rintro rfl
    simp at h
  unfold number negOf
  rw [if_neg h0, if_pos (by rcases h with h | h; exact .inr (.inr h.2); exact .inl h)]
theorem num_ok {s : Bs} {p : Nat} (hd : Digs s) (hne : s ≠ []) (h : ¬ ((1 < s.length ∧ s.head?.map UInt8.toNat = some 48) ∨ 19 < s.length)) (h2 : s.length < 19 ∨ leB s mostB = true) : number s p = ⟨k_number, s, p, -(val s : Int), 0⟩ ∧ val s ≤ 9223372036854775807 := by
  have hv : val s ≤ 9223372036854775807 := by
    rcases h2 with h2 | h2
    · have := val_lt hd
      have h3 : 10 ^ s.length ≤ 10 ^ 18 := Nat.pow_le_pow_right (by decide) (by omega)
      omega
    · by_cases h3 : s.length < 19
      · have := val_lt hd
        have h3 : 10 ^ s.length ≤ 10 ^ 18 := Nat.pow_le_pow_right (by decide) (by omega)
        omega
      · have := (le_val hd digs_most (by show s.length = 19; omega)).1 h2
        rwa [val_most] at this
  refine ⟨?_, hv⟩
  by_cases h0 : s = [48]
  · subst h0; rfl
  · unfold number negOf
    rw [if_neg h0, if_neg]
    rintro (e | e | e)
    · omega
    · omega
    · apply h
      refine .inl ⟨?_, e⟩
      cases s with
      | nil => exact absurd rfl hne
      | cons c r =>
        cases r with
        | nil =>
          exfalso
          apply h0
          simp only [List.head?_cons, Option.map_some, Option.some.injEq] at e
          have : c = 48 := UInt8.toNat_inj.1 e
          rw [this]
        | cons c2 r => simp
theorem num_least {p : Nat} : number leastB p = ⟨k_number, leastB, p, -9223372036854775808, 0⟩ := by
  unfold number negOf
  rw [if_neg (by decide), if_neg (by decide)]
  rfl
theorem num_big {s : Bs} {p : Nat} (hd : Digs s) (h : s.length = 19) (h2 : leB s mostB = false) (h3 : s ≠ leastB) : number s p = ⟨k_number, s, p, 0, 143⟩ := by
  have h4 : ¬ val s ≤ 9223372036854775807 := fun e => by
    have := (le_val hd digs_most h).2 (by rw [val_most]; exact e)
    rw [h2] at this; cases this
  have h5 : val s ≠ 9223372036854775808 := fun e => h3 (val_inj hd digs_least h (by rw [e, val_least]))
  unfold number negOf
  rw [if_neg (by rintro rfl; simp at h), if_pos (.inr (.inl (by omega)))]
end Go.Tx
namespace Go.Proofs.YtfnjodpehomgfaaGreatDoor
open Go Go.Sh Go.Tx
attribute [local irreducible] Blk Ext RdS
theorem bs_tl (l : Bs) : (bs l).toList = l := by rw [ByteArray.toList_eq]; exact bs_toList l
theorem run_leq {P : Program} {t : TypeId} {x y : Operand} {l m : Bs} (w : World) : (do eqGuard .leq t x y (.string (bs l)) (.string (bs m)); binOp .leq t (.string (bs l)) (.string (bs m)) : Sem Value).run P w = .ok (.bool (leB l m)) w := by
  have hg : (eqGuard .leq t x y (.string (bs l)) (.string (bs m))).run P w = .ok () w := by unfold eqGuard; simp
  simp [hg, binOp, Op.stringOp, bs_tl, leB]
theorem QSm.strcut {P : Program} {T : Tab} {W : World → Prop} {w : World} {Rl : World → World → Prop} {k : Value → Prop} {t : TypeId} {ti : TI} {l : Bs} (hW : QW W w Rl) (hT : TabOk P T) {kl kh : IntKind} {a b : Int} {i j : Nat} (hi : i ≤ j) (hj : j ≤ l.length) (hk : k (.string (bs ((l.drop i).take (j - i))))) (ht : getT T.ts t = some ti := by rfl) (hd : ti.desc = .string := by rfl) (ha : a = (i : Int) := by first | with_reducible rfl | assumption) (hb : b = (j : Int) := by first | with_reducible rfl | assumption) : QSm P (Instr.sliceAt t (.string (bs l)) (some (.int kl a)) (some (.int kh b)) none) W k := by
  subst ha hb
  exact QSm.mk hW (fun w' _ => run_strcut hT ht hd hi hj w') hk
theorem QSm.strix {P : Program} {T : Tab} {W : World → Prop} {w : World} {Rl : World → World → Prop} {k : Value → Prop} {t : TypeId} {ti : TI} {l : Bs} (hW : QW W w Rl) (hT : TabOk P T) {kl : IntKind} {a : Int} {j : Nat} {b : UInt8} (hk : k (.int .u8 (b.toNat : Int))) (ht : getT T.ts t = some ti := by rfl) (hd : ti.desc = .string := by rfl) (ha : a = (j : Int) := by first | with_reducible rfl | assumption) (hx : l[j]? = some b := by assumption) : QSm P (Instr.index t (.string (bs l)) (.int kl a)) W k := by
  subst ha
  exact QSm.mk hW (fun w' _ => run_strix hT ht hd hx w') hk
theorem letter_r (c : UInt8) (w : World) : Cl Tryz.prog 77 #[.int .u8 (c.toNat : Int)] w (fun v w' => v = .bool (letter c) ∧ Ext w w') (fun _ _ => False) := by
  refine calls_ex (args := [.int .u8 (c.toNat : Int)]) T.ok Tryz.func77 rfl rfl rfl rfl ?_
  have H := Hp.begin nw w
  repeat' ((conv => whnf); first | (((with_reducible show Gd ..); first | (with_reducible first | refine Gd.t ?_ | refine Gd.f ?_ | (first | apply Gd.dec | apply Gd.beq | apply Gd.bne) <;> intro _ | refine Gd.not ?_) | refine Gd.t ?_ | refine Gd.f ?_ | apply Gd.var <;> intro _) <;> try (exfalso; omega)) | with_reducible refine Sq.mk ?_ | ((with_reducible show Ld1 ..); first | refine Ld1.h H ?_ | refine Ld1.rF ?_ | refine Ld1.r ?_) | ((with_reducible show Ld ..); first | refine Ld.h H ?_ | refine Ld.r ?_) | ((with_reducible show Ix ..); first | refine Ix.h ?_ | refine Ix.ha ?_) | (refine Al.hp H ?_; clear H; intro _ _ H _) | (refine St.h H ?_; clear H; intro _ H))
  all_goals (refine ⟨b_eq ?_, H.e⟩; rw [Bool.eq_iff_iff]; simp only [letter, decide_eq_true_eq, beq_iff_eq, iff_true, true_iff, Bool.false_eq_true, false_iff]; omega)
theorem digit_r (c : UInt8) (w : World) : Cl Tryz.prog 78 #[.int .u8 (c.toNat : Int)] w (fun v w' => v = .bool (digit c) ∧ Ext w w') (fun _ _ => False) := by
  refine calls_ex (args := [.int .u8 (c.toNat : Int)]) T.ok Tryz.func78 rfl rfl rfl rfl ?_
  have H := Hp.begin nw w
  repeat' ((conv => whnf); first | (((with_reducible show Gd ..); first | (with_reducible first | refine Gd.t ?_ | refine Gd.f ?_ | (first | apply Gd.dec | apply Gd.beq | apply Gd.bne) <;> intro _ | refine Gd.not ?_) | refine Gd.t ?_ | refine Gd.f ?_ | apply Gd.var <;> intro _) <;> try (exfalso; omega)) | with_reducible refine Sq.mk ?_ | ((with_reducible show Ld1 ..); first | refine Ld1.h H ?_ | refine Ld1.rF ?_ | refine Ld1.r ?_) | ((with_reducible show Ld ..); first | refine Ld.h H ?_ | refine Ld.r ?_) | ((with_reducible show Ix ..); first | refine Ix.h ?_ | refine Ix.ha ?_) | (refine Al.hp H ?_; clear H; intro _ _ H _) | (refine St.h H ?_; clear H; intro _ H))
  all_goals (refine ⟨b_eq ?_, H.e⟩; rw [Bool.eq_iff_iff]; simp only [digit, decide_eq_true_eq, iff_true, true_iff, Bool.false_eq_true, false_iff]; omega)
theorem keywords_r (w : World) : Cl Tryz.prog 102 #[] w (fun v w' => ∃ A c, v = .slice A keywords.length c ∧ Hp nw w w' [qu strE 1 9 A c keywords]) (fun _ _ => False) := by
  refine calls_ex (args := []) T.ok Tryz.func102 rfl rfl rfl rfl ?_
  have H := Hp.begin nw w
  repeat' ((conv => whnf); first | (((with_reducible show Gd ..); first | (with_reducible first | refine Gd.t ?_ | refine Gd.f ?_ | (first | apply Gd.dec | apply Gd.beq | apply Gd.bne) <;> intro _ | refine Gd.not ?_) | refine Gd.t ?_ | refine Gd.f ?_ | apply Gd.var <;> intro _) <;> try (exfalso; omega)) | with_reducible refine Sq.mk ?_ | ((with_reducible show Ld1 ..); first | refine Ld1.h H ?_ | refine Ld1.rF ?_ | refine Ld1.r ?_) | ((with_reducible show Ld ..); first | refine Ld.h H ?_ | refine Ld.r ?_) | ((with_reducible show Ix ..); first | refine Ix.h ?_ | refine Ix.ha ?_) | (refine Al.hp H ?_; clear H; intro _ _ H _) | (refine St.h H ?_; clear H; intro _ H))
  refine Sm.lith (cs := keywords.flatMap strE) H T.ok (fun p w4 H _ => ?_)
  repeat' ((conv => whnf); first | (((with_reducible show Gd ..); first | (with_reducible first | refine Gd.t ?_ | refine Gd.f ?_ | (first | apply Gd.dec | apply Gd.beq | apply Gd.bne) <;> intro _ | refine Gd.not ?_) | refine Gd.t ?_ | refine Gd.f ?_ | apply Gd.var <;> intro _) <;> try (exfalso; omega)) | with_reducible refine Sq.mk ?_ | ((with_reducible show Ld1 ..); first | refine Ld1.h H ?_ | refine Ld1.rF ?_ | refine Ld1.r ?_) | ((with_reducible show Ld ..); first | refine Ld.h H ?_ | refine Ld.r ?_) | ((with_reducible show Ix ..); first | refine Ix.h ?_ | refine Ix.ha ?_) | (refine Al.hp H ?_; clear H; intro _ _ H _) | (refine St.h H ?_; clear H; intro _ H))
  exact ⟨some ⟨p, 0, none⟩, 15, rfl, Hp.bq (sz := 1) H (fun z _ => rfl)⟩
theorem signs_r (w : World) : Cl Tryz.prog 103 #[] w (fun v w' => ∃ A c, v = .slice A signs.length c ∧ Hp nw w w' [qu strE 1 9 A c signs]) (fun _ _ => False) := by
  refine calls_ex (args := []) T.ok Tryz.func103 rfl rfl rfl rfl ?_
  have H := Hp.begin nw w
  repeat' ((conv => whnf); first | (((with_reducible show Gd ..); first | (with_reducible first | refine Gd.t ?_ | refine Gd.f ?_ | (first | apply Gd.dec | apply Gd.beq | apply Gd.bne) <;> intro _ | refine Gd.not ?_) | refine Gd.t ?_ | refine Gd.f ?_ | apply Gd.var <;> intro _) <;> try (exfalso; omega)) | with_reducible refine Sq.mk ?_ | ((with_reducible show Ld1 ..); first | refine Ld1.h H ?_ | refine Ld1.rF ?_ | refine Ld1.r ?_) | ((with_reducible show Ld ..); first | refine Ld.h H ?_ | refine Ld.r ?_) | ((with_reducible show Ix ..); first | refine Ix.h ?_ | refine Ix.ha ?_) | (refine Al.hp H ?_; clear H; intro _ _ H _) | (refine St.h H ?_; clear H; intro _ H))
  refine Sm.lith (cs := signs.flatMap strE) H T.ok (fun p w4 H _ => ?_)
  repeat' ((conv => whnf); first | (((with_reducible show Gd ..); first | (with_reducible first | refine Gd.t ?_ | refine Gd.f ?_ | (first | apply Gd.dec | apply Gd.beq | apply Gd.bne) <;> intro _ | refine Gd.not ?_) | refine Gd.t ?_ | refine Gd.f ?_ | apply Gd.var <;> intro _) <;> try (exfalso; omega)) | with_reducible refine Sq.mk ?_ | ((with_reducible show Ld1 ..); first | refine Ld1.h H ?_ | refine Ld1.rF ?_ | refine Ld1.r ?_) | ((with_reducible show Ld ..); first | refine Ld.h H ?_ | refine Ld.r ?_) | ((with_reducible show Ix ..); first | refine Ix.h ?_ | refine Ix.ha ?_) | (refine Al.hp H ?_; clear H; intro _ _ H _) | (refine St.h H ?_; clear H; intro _ H))
  exact ⟨some ⟨p, 0, none⟩, 24, rfl, Hp.bq (sz := 1) H (fun z _ => rfl)⟩
theorem keyword_r (s : Bs) (w : World) : Cl Tryz.prog 79 #[.string (bs s)] w (fun v w' => v = .bool (isKw s) ∧ Ext w w') (fun _ _ => False) := by
  refine calls_ex (args := [.string (bs s)]) T.ok Tryz.func79 rfl rfl rfl rfl ?_
  have H := Hp.begin nw w
  repeat' ((conv => whnf); first | (((with_reducible show Gd ..); first | (with_reducible first | refine Gd.t ?_ | refine Gd.f ?_ | (first | apply Gd.dec | apply Gd.beq | apply Gd.bne) <;> intro _ | refine Gd.not ?_) | refine Gd.t ?_ | refine Gd.f ?_ | apply Gd.var <;> intro _) <;> try (exfalso; omega)) | with_reducible refine Sq.mk ?_ | ((with_reducible show Ld1 ..); first | refine Ld1.h H ?_ | refine Ld1.rF ?_ | refine Ld1.r ?_) | ((with_reducible show Ld ..); first | refine Ld.h H ?_ | refine Ld.r ?_) | ((with_reducible show Ix ..); first | refine Ix.h ?_ | refine Ix.ha ?_) | (refine Al.hp H ?_; clear H; intro _ _ H _) | (refine St.h H ?_; clear H; intro _ H))
  ((conv => whnf); refine Cl.mk (keywords_r _) ?_)
  rintro _ w2 ⟨A, c, rfl, H'⟩
  replace H := H.fr0 H' (.inl rfl)
  clear H'
  repeat' ((conv => whnf); first | (((with_reducible show Gd ..); first | (with_reducible first | refine Gd.t ?_ | refine Gd.f ?_ | (first | apply Gd.dec | apply Gd.beq | apply Gd.bne) <;> intro _ | refine Gd.not ?_) | refine Gd.t ?_ | refine Gd.f ?_ | apply Gd.var <;> intro _) <;> try (exfalso; omega)) | with_reducible refine Sq.mk ?_ | ((with_reducible show Ld1 ..); first | refine Ld1.h H ?_ | refine Ld1.rF ?_ | refine Ld1.r ?_) | ((with_reducible show Ld ..); first | refine Ld.h H ?_ | refine Ld.r ?_) | ((with_reducible show Ix ..); first | refine Ix.h ?_ | refine Ix.ha ?_) | (refine Al.hp H ?_; clear H; intro _ _ H _) | (refine St.h H ?_; clear H; intro _ H))
  refine Lp.g0 T.ok (σ := Nat) (fun i => [(4, .int .i64 (i : Int)), (3, .slice A keywords.length c), (0, .string (bs s))])
    (fun i w' => i ≤ keywords.length ∧ (keywords.take i).contains s = false ∧ Hp nw w w' [qu strE 1 9 A c keywords]) (fun i _ => 15 - i) 0 rfl ⟨rfl, rfl, rfl, trivial⟩ ⟨Nat.zero_le _, rfl, H⟩ ?_
  clear H
  rintro i w5 ⟨hi, hc, H⟩
  have hkl : keywords.length = 15 := rfl
  by_cases hlt : i < keywords.length
  · obtain ⟨x, hx⟩ : ∃ x, keywords[i]? = some x := ⟨_, List.getElem?_eq_getElem hlt⟩
    have hst := contains_step (s := s) hx
    repeat' ((conv => whnf); first | (((with_reducible show Gd ..); first | (with_reducible first | refine Gd.t ?_ | refine Gd.f ?_ | (first | apply Gd.dec | apply Gd.beq | apply Gd.bne) <;> intro _ | refine Gd.not ?_) | refine Gd.t ?_ | refine Gd.f ?_ | apply Gd.var <;> intro _) <;> try (exfalso; omega)) | with_reducible refine Sq.mk ?_ | ((with_reducible show Ld1 ..); first | refine Ld1.h H ?_ | refine Ld1.rF ?_ | refine Ld1.r ?_) | ((with_reducible show Ld ..); first | refine Ld.h H ?_ | refine Ld.r ?_) | ((with_reducible show Ix ..); first | refine Ix.h ?_ | refine Ix.ha ?_) | (refine Al.hp H ?_; clear H; intro _ _ H _) | (refine St.h H ?_; clear H; intro _ H))
    · rename_i hb
      rw [bs_eq] at hb
      refine ⟨b_eq ?_, H.e⟩
      have hm : s ∈ keywords := by rw [← of_decide_eq_true hb]; exact List.mem_of_getElem? hx
      exact (List.contains_iff_mem.2 hm).symm
    · rename_i hb
      rw [bs_eq] at hb
      refine ⟨i + 1, ⟨at_int (m := ((i + 1 : Nat) : Int)) rfl (w64 (by simp) (by omega) (by omega)), rfl, rfl, trivial⟩, rfl, ⟨by omega, ?_, H⟩, by omega⟩
      rw [hst, hc, Bool.false_or]
      exact beq_eq_false_iff_ne.2 (of_decide_eq_false hb)
  · have hi : i = keywords.length := by omega
    subst hi
    repeat' ((conv => whnf); first | (((with_reducible show Gd ..); first | (with_reducible first | refine Gd.t ?_ | refine Gd.f ?_ | (first | apply Gd.dec | apply Gd.beq | apply Gd.bne) <;> intro _ | refine Gd.not ?_) | refine Gd.t ?_ | refine Gd.f ?_ | apply Gd.var <;> intro _) <;> try (exfalso; omega)) | with_reducible refine Sq.mk ?_ | ((with_reducible show Ld1 ..); first | refine Ld1.h H ?_ | refine Ld1.rF ?_ | refine Ld1.r ?_) | ((with_reducible show Ld ..); first | refine Ld.h H ?_ | refine Ld.r ?_) | ((with_reducible show Ix ..); first | refine Ix.h ?_ | refine Ix.ha ?_) | (refine Al.hp H ?_; clear H; intro _ _ H _) | (refine St.h H ?_; clear H; intro _ H))
    all_goals first | (exfalso; omega) | skip
    refine ⟨b_eq ?_, H.e⟩
    exact hc.symm
set_option maxHeartbeats 2000000 in
theorem sign_r (l : Bs) (a : Nat) (w : World) (ha : a ≤ l.length) (hl : l.length ≤ 1000000) : Cl Tryz.prog 81 #[.string (bs l), .int .i64 (a : Int)] w (fun v w' => v = .string (bs ((signAt (l.drop a)).getD [])) ∧ Ext w w') (fun _ _ => False) := by
  refine calls_ex (args := [.string (bs l), .int .i64 (a : Int)]) T.ok Tryz.func81 rfl rfl rfl rfl ?_
  have H := Hp.begin nw w
  have hsz := bs_size l
  repeat' ((conv => whnf); first | (((with_reducible show Gd ..); first | (with_reducible first | refine Gd.t ?_ | refine Gd.f ?_ | (first | apply Gd.dec | apply Gd.beq | apply Gd.bne) <;> intro _ | refine Gd.not ?_) | refine Gd.t ?_ | refine Gd.f ?_ | apply Gd.var <;> intro _) <;> try (exfalso; omega)) | with_reducible refine Sq.mk ?_ | ((with_reducible show Ld1 ..); first | refine Ld1.h H ?_ | refine Ld1.rF ?_ | refine Ld1.r ?_) | ((with_reducible show Ld ..); first | refine Ld.h H ?_ | refine Ld.r ?_) | ((with_reducible show Ix ..); first | refine Ix.h ?_ | refine Ix.ha ?_) | (refine Al.hp H ?_; clear H; intro _ _ H _) | (refine St.h H ?_; clear H; intro _ H))
  ((conv => whnf); refine Cl.mk (signs_r _) ?_)
  rintro _ w2 ⟨A, c, rfl, H'⟩
  replace H := H.fr0 H' (.inl rfl)
  clear H'
  repeat' ((conv => whnf); first | (((with_reducible show Gd ..); first | (with_reducible first | refine Gd.t ?_ | refine Gd.f ?_ | (first | apply Gd.dec | apply Gd.beq | apply Gd.bne) <;> intro _ | refine Gd.not ?_) | refine Gd.t ?_ | refine Gd.f ?_ | apply Gd.var <;> intro _) <;> try (exfalso; omega)) | with_reducible refine Sq.mk ?_ | ((with_reducible show Ld1 ..); first | refine Ld1.h H ?_ | refine Ld1.rF ?_ | refine Ld1.r ?_) | ((with_reducible show Ld ..); first | refine Ld.h H ?_ | refine Ld.r ?_) | ((with_reducible show Ix ..); first | refine Ix.h ?_ | refine Ix.ha ?_) | (refine Al.hp H ?_; clear H; intro _ _ H _) | (refine St.h H ?_; clear H; intro _ H))
  refine Lp.g0 T.ok (σ := Nat) (fun i => [(6, .int .i64 (i : Int)), (5, .slice A signs.length c), (0, .string (bs l)), (1, .int .i64 (a : Int))])
    (fun i w' => i ≤ signs.length ∧ (signs.take i).find? (fun t => (l.drop a).take t.length == t) = none ∧ Hp nw w w' [qu strE 1 9 A c signs]) (fun i _ => 24 - i) 0 rfl ⟨rfl, rfl, rfl, rfl, trivial⟩ ⟨Nat.zero_le _, rfl, H⟩ ?_
  clear H
  rintro i w5 ⟨hi, hno, H⟩
  have hkl : signs.length = 24 := rfl
  by_cases hlt : i < signs.length
  · obtain ⟨x, hx⟩ : ∃ x, signs[i]? = some x := ⟨_, List.getElem?_eq_getElem hlt⟩
    obtain ⟨hx1, hx2⟩ := List.getElem?_eq_some_iff.1 hx
    have hxs : (bs x).size = x.length := bs_size x
    have hx24 : x.length ≤ 2 := by
      have : ∀ t ∈ signs, t.length ≤ 2 := by decide
      exact this x (List.mem_of_getElem? hx)
    have hwx : IntKind.i64.wrap ((a : Int) + ((bs x).size : Int)) = ((a + x.length : Nat) : Int) := w64 (by omega) (by omega) (by omega)
    have htk : (signs.take (i + 1)) = signs.take i ++ [x] := by rw [List.take_succ_eq_append_getElem hx1, hx2]
    repeat' ((conv => whnf); first | (((with_reducible show Gd ..); first | (with_reducible first | refine Gd.t ?_ | refine Gd.f ?_ | (first | apply Gd.dec | apply Gd.beq | apply Gd.bne) <;> intro _ | refine Gd.not ?_) | refine Gd.t ?_ | refine Gd.f ?_ | apply Gd.var <;> intro _) <;> try (exfalso; omega)) | with_reducible refine Sq.mk ?_ | ((with_reducible show Ld1 ..); first | refine Ld1.h H ?_ | refine Ld1.rF ?_ | refine Ld1.r ?_) | ((with_reducible show Ld ..); first | refine Ld.h H ?_ | refine Ld.r ?_) | ((with_reducible show Ix ..); first | refine Ix.h ?_ | refine Ix.ha ?_) | (refine Al.hp H ?_; clear H; intro _ _ H _) | (refine St.h H ?_; clear H; intro _ H))
    ((conv => whnf); refine Dr.quiet T.ok mixed (by kernel_rfl) (fun W hW => ?_))
    by_cases hroom : a + x.length ≤ l.length
    · repeat' (first | ((conv => whnf); first | (((with_reducible show Gd ..); first | (with_reducible first | refine Gd.t ?_ | refine Gd.f ?_ | (first | apply Gd.dec | apply Gd.beq | apply Gd.bne) <;> intro _ | refine Gd.not ?_) | refine Gd.t ?_ | refine Gd.f ?_ | apply Gd.var <;> intro _) <;> try (exfalso; omega)) | ((with_reducible show QLd1 ..); first | refine QLd1.h hW H ?_ | refine QLd1.rF hW ?_ | refine QLd1.r hW ?_) | ((with_reducible show QLd ..); first | refine QLd.h hW H ?_ | refine QLd.r hW ?_) | ((with_reducible show Ix ..); first | refine Ix.h ?_ | refine Ix.ha ?_)) | ((conv => whnf); refine QSm.strcut hW T.ok (i := a) (j := a + x.length) (by omega) (by omega) ?_))
      all_goals first | (exfalso; omega) | skip
      (intro _ eT; replace H := H.ext eT; clear hW eT)
      repeat' ((conv => whnf); first | (((with_reducible show Gd ..); first | (with_reducible first | refine Gd.t ?_ | refine Gd.f ?_ | (first | apply Gd.dec | apply Gd.beq | apply Gd.bne) <;> intro _ | refine Gd.not ?_) | refine Gd.t ?_ | refine Gd.f ?_ | apply Gd.var <;> intro _) <;> try (exfalso; omega)) | with_reducible refine Sq.mk ?_ | ((with_reducible show Ld1 ..); first | refine Ld1.h H ?_ | refine Ld1.rF ?_ | refine Ld1.r ?_) | ((with_reducible show Ld ..); first | refine Ld.h H ?_ | refine Ld.r ?_) | ((with_reducible show Ix ..); first | refine Ix.h ?_ | refine Ix.ha ?_) | (refine Al.hp H ?_; clear H; intro _ _ H _) | (refine St.h H ?_; clear H; intro _ H))
      · have hb : (bs ((l.drop a).take (a + x.length - a)) == bs x) = true := by assumption
        rw [Nat.add_sub_cancel_left, bs_eq] at hb
        have hs : signAt (l.drop a) = some x := sign_found hno hx (beq_iff_eq.2 (of_decide_eq_true hb))
        rw [hs]
        exact ⟨rfl, H.e⟩
      · have hb : (bs ((l.drop a).take (a + x.length - a)) == bs x) = false := by assumption
        rw [Nat.add_sub_cancel_left, bs_eq] at hb
        exact ⟨i + 1, ⟨at_int (m := ((i + 1 : Nat) : Int)) rfl (w64 (by simp) (by omega) (by omega)), rfl, rfl, rfl, trivial⟩, rfl, ⟨by omega, sign_more hno htk (beq_eq_false_iff_ne.2 (of_decide_eq_false hb)), H⟩, by omega⟩
    · repeat' ((conv => whnf); first | (((with_reducible show Gd ..); first | (with_reducible first | refine Gd.t ?_ | refine Gd.f ?_ | (first | apply Gd.dec | apply Gd.beq | apply Gd.bne) <;> intro _ | refine Gd.not ?_) | refine Gd.t ?_ | refine Gd.f ?_ | apply Gd.var <;> intro _) <;> try (exfalso; omega)) | ((with_reducible show QLd1 ..); first | refine QLd1.h hW H ?_ | refine QLd1.rF hW ?_ | refine QLd1.r hW ?_) | ((with_reducible show QLd ..); first | refine QLd.h hW H ?_ | refine QLd.r hW ?_) | ((with_reducible show Ix ..); first | refine Ix.h ?_ | refine Ix.ha ?_))
      all_goals first | (exfalso; omega) | skip
      have hnx : ((l.drop a).take x.length == x) = false := by
        refine beq_eq_false_iff_ne.2 fun e => ?_
        have := congrArg List.length e
        rw [List.length_take, List.length_drop] at this
        omega
      (intro _ eT; replace H := H.ext eT; clear hW eT)
      repeat' ((conv => whnf); first | (((with_reducible show Gd ..); first | (with_reducible first | refine Gd.t ?_ | refine Gd.f ?_ | (first | apply Gd.dec | apply Gd.beq | apply Gd.bne) <;> intro _ | refine Gd.not ?_) | refine Gd.t ?_ | refine Gd.f ?_ | apply Gd.var <;> intro _) <;> try (exfalso; omega)) | with_reducible refine Sq.mk ?_ | ((with_reducible show Ld1 ..); first | refine Ld1.h H ?_ | refine Ld1.rF ?_ | refine Ld1.r ?_) | ((with_reducible show Ld ..); first | refine Ld.h H ?_ | refine Ld.r ?_) | ((with_reducible show Ix ..); first | refine Ix.h ?_ | refine Ix.ha ?_) | (refine Al.hp H ?_; clear H; intro _ _ H _) | (refine St.h H ?_; clear H; intro _ H))
      exact ⟨i + 1, ⟨at_int (m := ((i + 1 : Nat) : Int)) rfl (w64 (by simp) (by omega) (by omega)), rfl, rfl, rfl, trivial⟩, rfl, ⟨by omega, sign_more hno htk hnx, H⟩, by omega⟩
  · have hi : i = signs.length := by omega
    subst hi
    have hs : signAt (l.drop a) = none := hno
    rw [hs]
    repeat' ((conv => whnf); first | (((with_reducible show Gd ..); first | (with_reducible first | refine Gd.t ?_ | refine Gd.f ?_ | (first | apply Gd.dec | apply Gd.beq | apply Gd.bne) <;> intro _ | refine Gd.not ?_) | refine Gd.t ?_ | refine Gd.f ?_ | apply Gd.var <;> intro _) <;> try (exfalso; omega)) | with_reducible refine Sq.mk ?_ | ((with_reducible show Ld1 ..); first | refine Ld1.h H ?_ | refine Ld1.rF ?_ | refine Ld1.r ?_) | ((with_reducible show Ld ..); first | refine Ld.h H ?_ | refine Ld.r ?_) | ((with_reducible show Ix ..); first | refine Ix.h ?_ | refine Ix.ha ?_) | (refine Al.hp H ?_; clear H; intro _ _ H _) | (refine St.h H ?_; clear H; intro _ H))
    all_goals first | (exfalso; omega) | skip
    exact ⟨rfl, H.e⟩
end Go.Proofs.YtfnjodpehomgfaaGreatDoor
namespace Go.Proofs.YtfnjodpehomgfaaGreatDoor
open Go Go.Sh Go.Tx
attribute [local irreducible] Blk Ext RdS
set_option maxHeartbeats 2000000 in
theorem blanks_r (l : Bs) (p0 : Nat) (w : World) (hp : p0 ≤ l.length) (hl : l.length ≤ 1000000) :
    Cl Tryz.prog 50 #[.string (bs l), .int .i64 (p0 : Int)] w (fun v w' => v = .int .i64 (skp false (l.drop p0) p0 : Int) ∧ Ext w w') (fun _ _ => False) := by
  refine calls_ex (args := [.string (bs l), .int .i64 (p0 : Int)]) T.ok Tryz.func50 rfl rfl rfl rfl ?_
  have H := Hp.begin nw w
  have hsz := bs_size l
  repeat' ((conv => whnf); first | (((with_reducible show Gd ..); first | (with_reducible first | refine Gd.t ?_ | refine Gd.f ?_ | (first | apply Gd.dec | apply Gd.beq | apply Gd.bne) <;> intro _ | refine Gd.not ?_) | refine Gd.t ?_ | refine Gd.f ?_ | apply Gd.var <;> intro _) <;> try (exfalso; omega)) | with_reducible refine Sq.mk ?_ | ((with_reducible show Ld1 ..); first | refine Ld1.h H ?_ | refine Ld1.rF ?_ | refine Ld1.r ?_) | ((with_reducible show Ld ..); first | refine Ld.h H ?_ | refine Ld.r ?_) | ((with_reducible show Ix ..); first | refine Ix.h ?_ | refine Ix.ha ?_) | (refine Al.hp H ?_; clear H; intro _ _ H _) | (refine St.h H ?_; clear H; intro _ H))
  refine Lp.g0 T.ok (σ := Nat) (fun p => [(1, .int .i64 (p : Int)), (0, .string (bs l))])
    (fun p w' => p ≤ l.length ∧ skp false (l.drop p) p = skp false (l.drop p0) p0 ∧ Hp nw w w' []) (fun p _ => l.length - p) p0 rfl ⟨rfl, rfl, trivial⟩ ⟨hp, rfl, H⟩ ?_
  clear H
  rintro p w5 ⟨hpl, hsk, H⟩
  by_cases hlt : p < l.length
  case neg =>
    repeat' ((conv => whnf); first | (((with_reducible show Gd ..); first | (with_reducible first | refine Gd.t ?_ | refine Gd.f ?_ | (first | apply Gd.dec | apply Gd.beq | apply Gd.bne) <;> intro _ | refine Gd.not ?_) | refine Gd.t ?_ | refine Gd.f ?_ | apply Gd.var <;> intro _) <;> try (exfalso; omega)) | with_reducible refine Sq.mk ?_ | ((with_reducible show Ld1 ..); first | refine Ld1.h H ?_ | refine Ld1.rF ?_ | refine Ld1.r ?_) | ((with_reducible show Ld ..); first | refine Ld.h H ?_ | refine Ld.r ?_) | ((with_reducible show Ix ..); first | refine Ix.h ?_ | refine Ix.ha ?_) | (refine Al.hp H ?_; clear H; intro _ _ H _) | (refine St.h H ?_; clear H; intro _ H))
    all_goals first | (exfalso; omega) | skip
    refine ⟨i_eq ?_, H.e⟩
    rw [← hsk, skp_end false l (by omega)]
  obtain ⟨c, hc⟩ : ∃ c, l[p]? = some c := ⟨_, List.getElem?_eq_getElem hlt⟩
  have hw1 : IntKind.i64.wrap ((p : Int) + 1) = ((p + 1 : Nat) : Int) := w64 rfl (by omega) (by omega)
  have hsf := skp_f hc
  by_cases hbl : Tx.blank c = true
  · rw [if_pos hbl, hsk] at hsf
    have hbl2 := hbl
    simp only [Tx.blank, decide_eq_true_eq] at hbl2
    repeat' ((conv => whnf); first | ((with_reducible show Gd (bs _ == _) _ _); first | refine Gd.sY (by assumption) ?_ | refine Gd.sk (by assumption) ?_ | refine Gd.sN (by assumption) ?_) | ((conv => whnf); first | (((with_reducible show Gd ..); first | (with_reducible first | refine Gd.t ?_ | refine Gd.f ?_ | (first | apply Gd.dec | apply Gd.beq | apply Gd.bne) <;> intro _ | refine Gd.not ?_) | refine Gd.t ?_ | refine Gd.f ?_ | apply Gd.var <;> intro _) <;> try (exfalso; omega)) | with_reducible refine Sq.mk ?_ | ((with_reducible show Ld1 ..); first | refine Ld1.h H ?_ | refine Ld1.rF ?_ | refine Ld1.r ?_) | ((with_reducible show Ld ..); first | refine Ld.h H ?_ | refine Ld.r ?_) | ((with_reducible show Ix ..); first | refine Ix.h ?_ | refine Ix.ha ?_) | (refine Al.hp H ?_; clear H; intro _ _ H _) | (refine St.h H ?_; clear H; intro _ H)) | refine Sm.strix T.ok ?_)
    all_goals first | (exfalso; omega) | skip
    all_goals exact ⟨p + 1, ⟨at_int rfl hw1, rfl, trivial⟩, rfl, ⟨by omega, hsf.symm, H⟩, by omega⟩
  · rw [if_neg hbl, hsk] at hsf
    have hbl2 := hbl
    simp only [Tx.blank, decide_eq_true_eq] at hbl2
    by_cases h47 : c.toNat = 47 ∧ (l[p + 1]?).map UInt8.toNat = some 47
    · rw [if_pos h47] at hsf
      obtain ⟨d, hd, hd2⟩ : ∃ d, l[p + 1]? = some d ∧ d.toNat = 47 := by
        have h2 := h47.2
        cases hx : l[p + 1]? with
        | none => rw [hx] at h2; simp at h2
        | some d => rw [hx] at h2; exact ⟨d, rfl, by simpa using h2⟩
      have hd1 := (List.getElem?_eq_some_iff.1 hd).1
      have h471 := h47.1
      repeat' ((conv => whnf); first | ((with_reducible show Gd (bs _ == _) _ _); first | refine Gd.sY (by assumption) ?_ | refine Gd.sk (by assumption) ?_ | refine Gd.sN (by assumption) ?_) | ((conv => whnf); first | (((with_reducible show Gd ..); first | (with_reducible first | refine Gd.t ?_ | refine Gd.f ?_ | (first | apply Gd.dec | apply Gd.beq | apply Gd.bne) <;> intro _ | refine Gd.not ?_) | refine Gd.t ?_ | refine Gd.f ?_ | apply Gd.var <;> intro _) <;> try (exfalso; omega)) | with_reducible refine Sq.mk ?_ | ((with_reducible show Ld1 ..); first | refine Ld1.h H ?_ | refine Ld1.rF ?_ | refine Ld1.r ?_) | ((with_reducible show Ld ..); first | refine Ld.h H ?_ | refine Ld.r ?_) | ((with_reducible show Ix ..); first | refine Ix.h ?_ | refine Ix.ha ?_) | (refine Al.hp H ?_; clear H; intro _ _ H _) | (refine St.h H ?_; clear H; intro _ H)) | refine Sm.strix T.ok ?_)
      all_goals first | (exfalso; omega) | skip
      have hst := skp_t hc
      rw [if_neg (by omega)] at hst
      refine Lp.g0 T.ok (σ := Nat) (fun q => [(1, .int .i64 (q : Int)), (0, .string (bs l))])
        (fun q w' => p ≤ q ∧ q ≤ l.length ∧ skp true (l.drop q) q = skp false (l.drop p0) p0 ∧ Hp nw w w' []) (fun q _ => l.length - q) p rfl ⟨rfl, rfl, trivial⟩ ⟨Nat.le_refl _, hpl, by rw [hst, ← hsf], H⟩ ?_
      clear H
      rintro q w6 ⟨hpq, hql, hsq, H⟩
      have hout : (q = l.length ∨ ∃ e, l[q]? = some e ∧ e.toNat = 10) → p < q ∧ skp false (l.drop q) q = skp false (l.drop p0) p0 := fun h => by
        rcases h with h | ⟨e, he, he2⟩
        · refine ⟨by omega, ?_⟩
          rw [← hsq, skp_end true l (by omega), skp_end false l (by omega)]
        · refine ⟨?_, ?_⟩
          · rcases Nat.lt_or_eq_of_le hpq with h | rfl
            · exact h
            · rw [hc] at he
              simp only [Option.some.injEq] at he
              subst he
              omega
          · rw [← hsq, skp_t he, if_pos he2, skp_f he, if_pos (by simp only [Tx.blank, decide_eq_true_eq]; omega)]
      by_cases hqlt : q < l.length
      · obtain ⟨e, he⟩ : ∃ e, l[q]? = some e := ⟨_, List.getElem?_eq_getElem hqlt⟩
        have hwq : IntKind.i64.wrap ((q : Int) + 1) = ((q + 1 : Nat) : Int) := w64 rfl (by omega) (by omega)
        by_cases he2 : e.toNat = 10
        · obtain ⟨h1, h2⟩ := hout (.inr ⟨e, he, he2⟩)
          repeat' ((conv => whnf); first | ((with_reducible show Gd (bs _ == _) _ _); first | refine Gd.sY (by assumption) ?_ | refine Gd.sk (by assumption) ?_ | refine Gd.sN (by assumption) ?_) | ((conv => whnf); first | (((with_reducible show Gd ..); first | (with_reducible first | refine Gd.t ?_ | refine Gd.f ?_ | (first | apply Gd.dec | apply Gd.beq | apply Gd.bne) <;> intro _ | refine Gd.not ?_) | refine Gd.t ?_ | refine Gd.f ?_ | apply Gd.var <;> intro _) <;> try (exfalso; omega)) | with_reducible refine Sq.mk ?_ | ((with_reducible show Ld1 ..); first | refine Ld1.h H ?_ | refine Ld1.rF ?_ | refine Ld1.r ?_) | ((with_reducible show Ld ..); first | refine Ld.h H ?_ | refine Ld.r ?_) | ((with_reducible show Ix ..); first | refine Ix.h ?_ | refine Ix.ha ?_) | (refine Al.hp H ?_; clear H; intro _ _ H _) | (refine St.h H ?_; clear H; intro _ H)) | refine Sm.strix T.ok ?_)
          all_goals first | (exfalso; omega) | skip
          exact ⟨q, ⟨rfl, rfl, trivial⟩, rfl, ⟨hql, h2, H⟩, by omega⟩
        · have hsq2 := skp_t he
          rw [if_neg he2] at hsq2
          repeat' ((conv => whnf); first | ((with_reducible show Gd (bs _ == _) _ _); first | refine Gd.sY (by assumption) ?_ | refine Gd.sk (by assumption) ?_ | refine Gd.sN (by assumption) ?_) | ((conv => whnf); first | (((with_reducible show Gd ..); first | (with_reducible first | refine Gd.t ?_ | refine Gd.f ?_ | (first | apply Gd.dec | apply Gd.beq | apply Gd.bne) <;> intro _ | refine Gd.not ?_) | refine Gd.t ?_ | refine Gd.f ?_ | apply Gd.var <;> intro _) <;> try (exfalso; omega)) | with_reducible refine Sq.mk ?_ | ((with_reducible show Ld1 ..); first | refine Ld1.h H ?_ | refine Ld1.rF ?_ | refine Ld1.r ?_) | ((with_reducible show Ld ..); first | refine Ld.h H ?_ | refine Ld.r ?_) | ((with_reducible show Ix ..); first | refine Ix.h ?_ | refine Ix.ha ?_) | (refine Al.hp H ?_; clear H; intro _ _ H _) | (refine St.h H ?_; clear H; intro _ H)) | refine Sm.strix T.ok ?_)
          all_goals first | (exfalso; omega) | skip
          exact ⟨q + 1, ⟨at_int rfl hwq, rfl, trivial⟩, rfl, ⟨by omega, by omega, by rw [← hsq2, hsq], H⟩, by omega⟩
      · obtain ⟨h1, h2⟩ := hout (.inl (by omega))
        repeat' ((conv => whnf); first | ((with_reducible show Gd (bs _ == _) _ _); first | refine Gd.sY (by assumption) ?_ | refine Gd.sk (by assumption) ?_ | refine Gd.sN (by assumption) ?_) | ((conv => whnf); first | (((with_reducible show Gd ..); first | (with_reducible first | refine Gd.t ?_ | refine Gd.f ?_ | (first | apply Gd.dec | apply Gd.beq | apply Gd.bne) <;> intro _ | refine Gd.not ?_) | refine Gd.t ?_ | refine Gd.f ?_ | apply Gd.var <;> intro _) <;> try (exfalso; omega)) | with_reducible refine Sq.mk ?_ | ((with_reducible show Ld1 ..); first | refine Ld1.h H ?_ | refine Ld1.rF ?_ | refine Ld1.r ?_) | ((with_reducible show Ld ..); first | refine Ld.h H ?_ | refine Ld.r ?_) | ((with_reducible show Ix ..); first | refine Ix.h ?_ | refine Ix.ha ?_) | (refine Al.hp H ?_; clear H; intro _ _ H _) | (refine St.h H ?_; clear H; intro _ H)) | refine Sm.strix T.ok ?_)
        all_goals first | (exfalso; omega) | skip
        exact ⟨q, ⟨rfl, rfl, trivial⟩, rfl, ⟨hql, h2, H⟩, by omega⟩
    · rw [if_neg h47] at hsf
      have hfin : ∀ w', Ext w w' → Value.int .i64 (p : Int) = .int .i64 (skp false (l.drop p0) p0 : Int) ∧ Ext w w' := fun w' e => ⟨by rw [hsf], e⟩
      by_cases h471 : c.toNat = 47
      · by_cases hp1 : p + 1 < l.length
        · obtain ⟨d, hd⟩ : ∃ d, l[p + 1]? = some d := ⟨_, List.getElem?_eq_getElem hp1⟩
          have hd2 : d.toNat ≠ 47 := fun e => h47 ⟨h471, by rw [hd]; simpa using e⟩
          repeat' ((conv => whnf); first | ((with_reducible show Gd (bs _ == _) _ _); first | refine Gd.sY (by assumption) ?_ | refine Gd.sk (by assumption) ?_ | refine Gd.sN (by assumption) ?_) | ((conv => whnf); first | (((with_reducible show Gd ..); first | (with_reducible first | refine Gd.t ?_ | refine Gd.f ?_ | (first | apply Gd.dec | apply Gd.beq | apply Gd.bne) <;> intro _ | refine Gd.not ?_) | refine Gd.t ?_ | refine Gd.f ?_ | apply Gd.var <;> intro _) <;> try (exfalso; omega)) | with_reducible refine Sq.mk ?_ | ((with_reducible show Ld1 ..); first | refine Ld1.h H ?_ | refine Ld1.rF ?_ | refine Ld1.r ?_) | ((with_reducible show Ld ..); first | refine Ld.h H ?_ | refine Ld.r ?_) | ((with_reducible show Ix ..); first | refine Ix.h ?_ | refine Ix.ha ?_) | (refine Al.hp H ?_; clear H; intro _ _ H _) | (refine St.h H ?_; clear H; intro _ H)) | refine Sm.strix T.ok ?_)
          all_goals first | (exfalso; omega) | skip
          all_goals exact hfin _ H.e
        · repeat' ((conv => whnf); first | ((with_reducible show Gd (bs _ == _) _ _); first | refine Gd.sY (by assumption) ?_ | refine Gd.sk (by assumption) ?_ | refine Gd.sN (by assumption) ?_) | ((conv => whnf); first | (((with_reducible show Gd ..); first | (with_reducible first | refine Gd.t ?_ | refine Gd.f ?_ | (first | apply Gd.dec | apply Gd.beq | apply Gd.bne) <;> intro _ | refine Gd.not ?_) | refine Gd.t ?_ | refine Gd.f ?_ | apply Gd.var <;> intro _) <;> try (exfalso; omega)) | with_reducible refine Sq.mk ?_ | ((with_reducible show Ld1 ..); first | refine Ld1.h H ?_ | refine Ld1.rF ?_ | refine Ld1.r ?_) | ((with_reducible show Ld ..); first | refine Ld.h H ?_ | refine Ld.r ?_) | ((with_reducible show Ix ..); first | refine Ix.h ?_ | refine Ix.ha ?_) | (refine Al.hp H ?_; clear H; intro _ _ H _) | (refine St.h H ?_; clear H; intro _ H)) | refine Sm.strix T.ok ?_)
          all_goals first | (exfalso; omega) | skip
          all_goals exact hfin _ H.e
      · repeat' ((conv => whnf); first | ((with_reducible show Gd (bs _ == _) _ _); first | refine Gd.sY (by assumption) ?_ | refine Gd.sk (by assumption) ?_ | refine Gd.sN (by assumption) ?_) | ((conv => whnf); first | (((with_reducible show Gd ..); first | (with_reducible first | refine Gd.t ?_ | refine Gd.f ?_ | (first | apply Gd.dec | apply Gd.beq | apply Gd.bne) <;> intro _ | refine Gd.not ?_) | refine Gd.t ?_ | refine Gd.f ?_ | apply Gd.var <;> intro _) <;> try (exfalso; omega)) | with_reducible refine Sq.mk ?_ | ((with_reducible show Ld1 ..); first | refine Ld1.h H ?_ | refine Ld1.rF ?_ | refine Ld1.r ?_) | ((with_reducible show Ld ..); first | refine Ld.h H ?_ | refine Ld.r ?_) | ((with_reducible show Ix ..); first | refine Ix.h ?_ | refine Ix.ha ?_) | (refine Al.hp H ?_; clear H; intro _ _ H _) | (refine St.h H ?_; clear H; intro _ H)) | refine Sm.strix T.ok ?_)
        all_goals first | (exfalso; omega) | skip
        all_goals exact hfin _ H.e
def rwE (src : Bs) (t : Tk) : List Value := [.string (bs (rKind t)), .int .i64 (t.at_ : Int), .string (bs (rText src t)), .int .i64 t.err]
theorem run_leqM {P : Program} {t : TypeId} {x y : Operand} {l : Bs} (c : ByteArray) (m : Bs) (hc : c = bs m) (w : World) : (do eqGuard .leq t x y (.string (bs l)) (.string c); binOp .leq t (.string (bs l)) (.string c) : Sem Value).run P w = .ok (.bool (leB l m)) w := by
  subst hc; exact run_leq w
set_option maxHeartbeats 1000000 in
theorem numberKind_r (s : Bs) (w : World) (hd : Digs s) (hne : s ≠ []) (hl : s.length ≤ 1000000) :
    Cl Tryz.prog 80 #[.string (bs s)] w (fun v w' => v = .agg #[.string (bs (rKind (number s 0))), .int .i64 0, .string (bs []), .int .i64 (number s 0).err] ∧ Ext w w') (fun _ _ => False) := by
  refine calls_ex (args := [.string (bs s)]) T.ok Tryz.func80 rfl rfl rfl rfl ?_
  have H := Hp.begin nw w
  have hsz := bs_size s
  have hsm := bs_size mostB
  obtain ⟨c, hc⟩ : ∃ c, s[0]? = some c := ⟨s[0]'(List.length_pos_iff.2 hne), List.getElem?_eq_getElem _⟩
  have hhd : s.head?.map UInt8.toNat = some c.toNat := by
    cases s with
    | nil => simp at hc
    | cons x r => simp at hc; simp [hc]
  have hbad : (1 < s.length ∧ c.toNat = 48) ∨ 19 < s.length → ∀ w', Ext w w' → Value.agg #[.string (bs k_bad), .int .i64 0, .string (bs []), .int .i64 143] = .agg #[.string (bs (rKind (number s 0))), .int .i64 0, .string (bs []), .int .i64 (number s 0).err] ∧ Ext w w' := fun h w' e => by
    rw [num_bad (by rw [hhd]; rcases h with h | h; exact .inl ⟨h.1, by rw [h.2]⟩; exact .inr h)]
    exact ⟨rfl, e⟩
  refine Sq.mk ?_
  ((conv => whnf); refine Al.hp H ?_; clear H; intro p4 _ H _)
  have hm19 : (bs mostB).size = 19 := hsm
  have hm20 : (({ data := #[57, 50, 50, 51, 51, 55, 50, 48, 51, 54, 56, 53, 52, 55, 55, 53, 56, 48, 55] } : ByteArray).size : Int) = 19 := rfl
  by_cases hA : (1 < s.length ∧ c.toNat = 48) ∨ 19 < s.length
  · repeat' (first | ((conv => whnf); first | ((with_reducible show Gd (bs _ == _) _ _); first | refine Gd.sY (by assumption) ?_ | refine Gd.sk (by assumption) ?_ | refine Gd.sN (by assumption) ?_) | ((conv => whnf); first | (((with_reducible show Gd ..); first | (with_reducible first | refine Gd.t ?_ | refine Gd.f ?_ | (first | apply Gd.dec | apply Gd.beq | apply Gd.bne) <;> intro _ | refine Gd.not ?_) | refine Gd.t ?_ | refine Gd.f ?_ | apply Gd.var <;> intro _) <;> try (exfalso; omega)) | with_reducible refine Sq.mk ?_ | ((with_reducible show Ld1 ..); first | refine Ld1.h H ?_ | refine Ld1.rF ?_ | refine Ld1.r ?_) | ((with_reducible show Ld ..); first | refine Ld.h H ?_ | refine Ld.r ?_) | ((with_reducible show Ix ..); first | refine Ix.h ?_ | refine Ix.ha ?_) | (refine Al.hp H ?_; clear H; intro _ _ H _) | (refine St.h H ?_; clear H; intro _ H)) | refine Sm.strix T.ok ?_) | ((conv => whnf); (with_reducible show Sm _ _ _ _ _); first | refine Sm.strix T.ok (j := 0) ?_ (ha := rfl) | refine Sm.ran (run_leqM _ mostB rfl _) ?_))
    all_goals first | (exfalso; omega) | skip
    all_goals exact hbad hA _ H.e
  have hA' : ¬ ((1 < s.length ∧ s.head?.map UInt8.toNat = some 48) ∨ 19 < s.length) := fun h => hA (by rw [hhd] at h; rcases h with h | h; exact .inl ⟨h.1, by simpa using h.2⟩; exact .inr h)
  by_cases hB : s.length < 19 ∨ leB s mostB = true
  · have hn := num_ok (p := 0) hd hne hA' hB
    have hfin : ∀ w', Ext w w' → Value.agg #[.string (bs k_number), .int .i64 0, .string (bs []), .int .i64 0] = .agg #[.string (bs (rKind (number s 0))), .int .i64 0, .string (bs []), .int .i64 (number s 0).err] ∧ Ext w w' := fun w' e => by
      have hk : rKind (number s 0) = k_number := by
        rw [hn.1]; unfold rKind
        rw [if_neg (by simp), if_neg]
        rintro ⟨_, h⟩
        have := hn.2
        simp only at h
        omega
      rw [hk, hn.1]; exact ⟨rfl, e⟩
    repeat' (first | ((conv => whnf); first | ((with_reducible show Gd (bs _ == _) _ _); first | refine Gd.sY (by assumption) ?_ | refine Gd.sk (by assumption) ?_ | refine Gd.sN (by assumption) ?_) | ((conv => whnf); first | (((with_reducible show Gd ..); first | (with_reducible first | refine Gd.t ?_ | refine Gd.f ?_ | (first | apply Gd.dec | apply Gd.beq | apply Gd.bne) <;> intro _ | refine Gd.not ?_) | refine Gd.t ?_ | refine Gd.f ?_ | apply Gd.var <;> intro _) <;> try (exfalso; omega)) | with_reducible refine Sq.mk ?_ | ((with_reducible show Ld1 ..); first | refine Ld1.h H ?_ | refine Ld1.rF ?_ | refine Ld1.r ?_) | ((with_reducible show Ld ..); first | refine Ld.h H ?_ | refine Ld.r ?_) | ((with_reducible show Ix ..); first | refine Ix.h ?_ | refine Ix.ha ?_) | (refine Al.hp H ?_; clear H; intro _ _ H _) | (refine St.h H ?_; clear H; intro _ H)) | refine Sm.strix T.ok ?_) | ((conv => whnf); (with_reducible show Sm _ _ _ _ _); first | refine Sm.strix T.ok (j := 0) ?_ (ha := rfl) | refine Sm.ran (run_leqM _ mostB rfl _) ?_))
    all_goals first | (exfalso; omega) | skip
    all_goals first | exact hfin _ H.e | skip
    all_goals (exfalso; rcases hB with h | h; omega; simp_all)
  have h19 : s.length = 19 := by
    have : ¬ s.length < 19 := fun h => hB (.inl h)
    have : ¬ 19 < s.length := fun h => hA (.inr h)
    omega
  have hlb : leB s mostB = false := Bool.eq_false_iff.2 fun h => hB (.inr h)
  by_cases hC : s = leastB
  · repeat' (first | ((conv => whnf); first | ((with_reducible show Gd (bs _ == _) _ _); first | refine Gd.sY (by assumption) ?_ | refine Gd.sk (by assumption) ?_ | refine Gd.sN (by assumption) ?_) | ((conv => whnf); first | (((with_reducible show Gd ..); first | (with_reducible first | refine Gd.t ?_ | refine Gd.f ?_ | (first | apply Gd.dec | apply Gd.beq | apply Gd.bne) <;> intro _ | refine Gd.not ?_) | refine Gd.t ?_ | refine Gd.f ?_ | apply Gd.var <;> intro _) <;> try (exfalso; omega)) | with_reducible refine Sq.mk ?_ | ((with_reducible show Ld1 ..); first | refine Ld1.h H ?_ | refine Ld1.rF ?_ | refine Ld1.r ?_) | ((with_reducible show Ld ..); first | refine Ld.h H ?_ | refine Ld.r ?_) | ((with_reducible show Ix ..); first | refine Ix.h ?_ | refine Ix.ha ?_) | (refine Al.hp H ?_; clear H; intro _ _ H _) | (refine St.h H ?_; clear H; intro _ H)) | refine Sm.strix T.ok ?_) | ((conv => whnf); (with_reducible show Sm _ _ _ _ _); first | refine Sm.strix T.ok (j := 0) ?_ (ha := rfl) | refine Sm.ran (run_leqM _ mostB rfl _) ?_))
    all_goals first | (exfalso; omega) | skip
    · exfalso; simp_all
    · refine ⟨?_, H.e⟩
      rw [hC, num_least]; rfl
  · have hn := num_big (p := 0) hd h19 hlb hC
    repeat' (first | ((conv => whnf); first | ((with_reducible show Gd (bs _ == _) _ _); first | refine Gd.sY (by assumption) ?_ | refine Gd.sk (by assumption) ?_ | refine Gd.sN (by assumption) ?_) | ((conv => whnf); first | (((with_reducible show Gd ..); first | (with_reducible first | refine Gd.t ?_ | refine Gd.f ?_ | (first | apply Gd.dec | apply Gd.beq | apply Gd.bne) <;> intro _ | refine Gd.not ?_) | refine Gd.t ?_ | refine Gd.f ?_ | apply Gd.var <;> intro _) <;> try (exfalso; omega)) | with_reducible refine Sq.mk ?_ | ((with_reducible show Ld1 ..); first | refine Ld1.h H ?_ | refine Ld1.rF ?_ | refine Ld1.r ?_) | ((with_reducible show Ld ..); first | refine Ld.h H ?_ | refine Ld.r ?_) | ((with_reducible show Ix ..); first | refine Ix.h ?_ | refine Ix.ha ?_) | (refine Al.hp H ?_; clear H; intro _ _ H _) | (refine St.h H ?_; clear H; intro _ H)) | refine Sm.strix T.ok ?_) | ((conv => whnf); (with_reducible show Sm _ _ _ _ _); first | refine Sm.strix T.ok (j := 0) ?_ (ha := rfl) | refine Sm.ran (run_leqM _ mostB rfl _) ?_))
    all_goals first | (exfalso; omega) | skip
    · exfalso; simp_all
    · refine ⟨?_, H.e⟩
      rw [hn]; rfl
end Go.Proofs.YtfnjodpehomgfaaGreatDoor
namespace Go.Proofs.YtfnjodpehomgfaaGreatDoor
open Go Go.Sh Go.Tx
attribute [local irreducible] Blk Ext RdS
def rdAt (l : Bs) (a : Nat) : Tk × Nat := match l.drop a with
  | [] => (⟨k_end, [], l.length, 0, 0⟩, l.length)
  | c :: r =>
    if letter c = true then (named ((c :: r).take (spanN alnum (c :: r))) a, a + spanN alnum (c :: r))
    else if digit c = true then (number ((c :: r).take (spanN digit (c :: r))) a, a + spanN digit (c :: r))
    else match signAt (c :: r) with
      | some t => (⟨t, t, a, 0, 0⟩, a + t.length)
      | none => (⟨[], [], a, 0, 140⟩, a + 1)
theorem read_rd (l : Bs) (p : Nat) : readT l p = rdAt l (skp false (l.drop p) p) := rfl
theorem num_at (s : Bs) (a : Nat) : number s a = { number s 0 with at_ := a } := by unfold number; cases negOf s <;> rfl
theorem num_kind (s : Bs) (a : Nat) : rKind (number s a) = rKind (number s 0) := by rw [num_at]; rfl
theorem num_err (s : Bs) (a : Nat) : (number s a).err = (number s 0).err ∧ (number s a).text = s ∧ (number s a).at_ = a ∧ (number s a).err ≠ 140 := by
  unfold number; cases negOf s <;> exact ⟨rfl, rfl, rfl, by simp⟩
theorem kw_len {s : Bs} (h : isKw s = true) : s.length ≤ 8 := by
  have h1 : ∀ t ∈ keywords, t.length ≤ 8 := by decide
  exact h1 s (List.contains_iff_mem.1 h)
theorem rk0 {k s : Bs} {a : Nat} : rKind ⟨k, s, a, 0, 0⟩ = k := by
  unfold rKind
  rw [if_neg (fun h => h rfl), if_neg]
  rintro ⟨_, h⟩
  simp at h
set_option maxHeartbeats 4000000 in
theorem word_r (l : Bs) (a : Nat) (w : World) (ha : a < l.length) (hl : l.length ≤ 1000000) :
    Cl Tryz.prog 51 #[.string (bs l), .int .i64 (a : Int)] w (fun v w' => v = .agg (rwE l (rdAt l a).1).toArray ∧ Ext w w') (fun _ _ => False) := by
  refine calls_ex (args := [.string (bs l), .int .i64 (a : Int)]) T.ok Tryz.func51 rfl rfl rfl rfl ?_
  have H := Hp.begin nw w
  have hsz := bs_size l
  refine Sq.mk ?_
  ((conv => whnf); refine Al.hp H ?_; clear H; intro p4 _ H _)
  have hal : a ≤ l.length := by omega
  obtain ⟨c, hc⟩ : ∃ c, l[a]? = some c := ⟨_, List.getElem?_eq_getElem ha⟩
  have hcr : l.drop a = c :: l.drop (a + 1) := by
    obtain ⟨h1, h2⟩ := List.getElem?_eq_some_iff.1 hc
    rw [List.drop_eq_getElem_cons h1, h2]
  have hR : rdAt l a = if letter c = true then (named ((l.drop a).take (spanN alnum (l.drop a))) a, a + spanN alnum (l.drop a)) else if digit c = true then (number ((l.drop a).take (spanN digit (l.drop a))) a, a + spanN digit (l.drop a)) else match signAt (l.drop a) with
      | some t => (⟨t, t, a, 0, 0⟩, a + t.length)
      | none => (⟨[], [], a, 0, 140⟩, a + 1) := by
    unfold rdAt; rw [hcr]
  rw [hR]
  clear hR
  by_cases hle : letter c = true
  · rw [if_pos hle]
    repeat' (first | ((conv => whnf); first | ((with_reducible show Gd (bs _ == _) _ _); first | refine Gd.sY (by assumption) ?_ | refine Gd.sk (by assumption) ?_ | refine Gd.sN (by assumption) ?_) | ((conv => whnf); first | (((with_reducible show Gd ..); first | (with_reducible first | refine Gd.t ?_ | refine Gd.f ?_ | (first | apply Gd.dec | apply Gd.beq | apply Gd.bne) <;> intro _ | refine Gd.not ?_) | refine Gd.t ?_ | refine Gd.f ?_ | apply Gd.var <;> intro _) <;> try (exfalso; omega)) | with_reducible refine Sq.mk ?_ | ((with_reducible show Ld1 ..); first | refine Ld1.h H ?_ | refine Ld1.rF ?_ | refine Ld1.r ?_) | ((with_reducible show Ld ..); first | refine Ld.h H ?_ | refine Ld.r ?_) | ((with_reducible show Ix ..); first | refine Ix.h ?_ | refine Ix.ha ?_) | (refine Al.hp H ?_; clear H; intro _ _ H _) | (refine St.h H ?_; clear H; intro _ H)) | refine Sm.strix T.ok ?_) | ((((conv => whnf); refine Cl.mk (letter_r c _) ?_); rintro _ _ ⟨rfl, hx⟩; replace H := H.ext hx; clear hx); rw [hle]))
    all_goals first | (exfalso; omega) | skip
    have hdone : ∀ e w', e - a = spanN alnum (l.drop a) → a ≤ e → e ≤ l.length → Ext w w' → (24 < ((l.drop a).take (e - a)).length → Value.agg #[.string (bs k_bad), .int .i64 (a : Int), .string (bs ((l.drop a).take (e - a))), .int .i64 142] = .agg (rwE l (named ((l.drop a).take (spanN alnum (l.drop a))) a)).toArray ∧ Ext w w') ∧
        (¬ 24 < ((l.drop a).take (e - a)).length → (isKw ((l.drop a).take (e - a)) = true → Value.agg #[.string (bs ((l.drop a).take (e - a))), .int .i64 (a : Int), .string (bs ((l.drop a).take (e - a))), .int .i64 0] = .agg (rwE l (named ((l.drop a).take (spanN alnum (l.drop a))) a)).toArray ∧ Ext w w') ∧
          (isKw ((l.drop a).take (e - a)) = false → Value.agg #[.string (bs k_name), .int .i64 (a : Int), .string (bs ((l.drop a).take (e - a))), .int .i64 0] = .agg (rwE l (named ((l.drop a).take (spanN alnum (l.drop a))) a)).toArray ∧ Ext w w')) := fun e w' h1 h2 h3 ex => by
      rw [← h1]
      generalize (l.drop a).take (e - a) = s
      refine ⟨fun h => ?_, fun h => ⟨fun hk => ?_, fun hk => ?_⟩⟩
      · have hk : ¬ isKw s = true := fun hk => by have := kw_len hk; omega
        unfold named
        rw [if_neg hk, if_pos h]; exact ⟨rfl, ex⟩
      · unfold named
        rw [if_pos hk]
        refine ⟨?_, ex⟩
        unfold rwE
        rw [rk0]; rfl
      · unfold named
        rw [hk, if_neg (by simp), if_neg h]
        refine ⟨?_, ex⟩
        unfold rwE
        rw [rk0]; rfl
    refine Lp.g0 T.ok (σ := Nat) (fun e => [(5, .int .i64 (e : Int)), (1, .int .i64 (a : Int)), (0, .string (bs l)), (4, .pointer (some ⟨p4, 0, none⟩))])
      (fun e w' => a ≤ e ∧ e ≤ l.length ∧ spanN alnum (l.drop e) + (e - a) = spanN alnum (l.drop a) ∧ Hp nw w w' [bk p4 99 T.t99.zero.cells.toList]) (fun e _ => l.length - e) a rfl ⟨rfl, rfl, rfl, rfl, trivial⟩ ⟨Nat.le_refl _, hal, by omega, H⟩ ?_
    clear H
    rintro e w5 ⟨hae, hel, hsp, H⟩
    have hfin : spanN alnum (l.drop e) = 0 → e - a = spanN alnum (l.drop a) := fun h => by omega
    have hcl : ((l.drop a).take (e - a)).length = e - a := by rw [List.length_take, List.length_drop]; omega
    have hbl := bs_size ((l.drop a).take (e - a))
    rw [hcl] at hbl
    have hend : e - a = spanN alnum (l.drop a) → ∀ w', Ext w w' → (24 < e - a → Value.agg #[.string (bs k_bad), .int .i64 (a : Int), .string (bs ((l.drop a).take (e - a))), .int .i64 142] = .agg (rwE l (named ((l.drop a).take (spanN alnum (l.drop a))) a)).toArray ∧ Ext w w') ∧
        (¬ 24 < e - a → (isKw ((l.drop a).take (e - a)) = true → Value.agg #[.string (bs ((l.drop a).take (e - a))), .int .i64 (a : Int), .string (bs ((l.drop a).take (e - a))), .int .i64 0] = .agg (rwE l (named ((l.drop a).take (spanN alnum (l.drop a))) a)).toArray ∧ Ext w w') ∧
          (isKw ((l.drop a).take (e - a)) = false → Value.agg #[.string (bs k_name), .int .i64 (a : Int), .string (bs ((l.drop a).take (e - a))), .int .i64 0] = .agg (rwE l (named ((l.drop a).take (spanN alnum (l.drop a))) a)).toArray ∧ Ext w w')) := fun h w' ex => by
      have := hdone e w' h hae hel ex
      rwa [hcl] at this
    clear hdone
    by_cases hlt2 : e < l.length
    · obtain ⟨d, hd⟩ : ∃ d, l[e]? = some d := ⟨_, List.getElem?_eq_getElem hlt2⟩
      have hwe : IntKind.i64.wrap ((e : Int) + 1) = ((e + 1 : Nat) : Int) := w64 rfl (by omega) (by omega)
      have hsa := span_at (f := alnum) hd
      by_cases hdl : letter d = true
      · rw [if_pos (by simp [alnum, hdl])] at hsa
        repeat' (first | ((conv => whnf); first | ((with_reducible show Gd (bs _ == _) _ _); first | refine Gd.sY (by assumption) ?_ | refine Gd.sk (by assumption) ?_ | refine Gd.sN (by assumption) ?_) | ((conv => whnf); first | (((with_reducible show Gd ..); first | (with_reducible first | refine Gd.t ?_ | refine Gd.f ?_ | (first | apply Gd.dec | apply Gd.beq | apply Gd.bne) <;> intro _ | refine Gd.not ?_) | refine Gd.t ?_ | refine Gd.f ?_ | apply Gd.var <;> intro _) <;> try (exfalso; omega)) | with_reducible refine Sq.mk ?_ | ((with_reducible show Ld1 ..); first | refine Ld1.h H ?_ | refine Ld1.rF ?_ | refine Ld1.r ?_) | ((with_reducible show Ld ..); first | refine Ld.h H ?_ | refine Ld.r ?_) | ((with_reducible show Ix ..); first | refine Ix.h ?_ | refine Ix.ha ?_) | (refine Al.hp H ?_; clear H; intro _ _ H _) | (refine St.h H ?_; clear H; intro _ H)) | refine Sm.strix T.ok ?_) | ((((conv => whnf); refine Cl.mk (letter_r d _) ?_); rintro _ _ ⟨rfl, hx⟩; replace H := H.ext hx; clear hx); rw [hdl]))
        all_goals first | (exfalso; omega) | skip
        exact ⟨e + 1, ⟨at_int rfl hwe, rfl, rfl, rfl, trivial⟩, rfl, ⟨by omega, by omega, by omega, H⟩, by omega⟩
      · by_cases hdd : digit d = true
        · rw [if_pos (by simp [alnum, hdd])] at hsa
          repeat' (first | ((conv => whnf); first | ((with_reducible show Gd (bs _ == _) _ _); first | refine Gd.sY (by assumption) ?_ | refine Gd.sk (by assumption) ?_ | refine Gd.sN (by assumption) ?_) | ((conv => whnf); first | (((with_reducible show Gd ..); first | (with_reducible first | refine Gd.t ?_ | refine Gd.f ?_ | (first | apply Gd.dec | apply Gd.beq | apply Gd.bne) <;> intro _ | refine Gd.not ?_) | refine Gd.t ?_ | refine Gd.f ?_ | apply Gd.var <;> intro _) <;> try (exfalso; omega)) | with_reducible refine Sq.mk ?_ | ((with_reducible show Ld1 ..); first | refine Ld1.h H ?_ | refine Ld1.rF ?_ | refine Ld1.r ?_) | ((with_reducible show Ld ..); first | refine Ld.h H ?_ | refine Ld.r ?_) | ((with_reducible show Ix ..); first | refine Ix.h ?_ | refine Ix.ha ?_) | (refine Al.hp H ?_; clear H; intro _ _ H _) | (refine St.h H ?_; clear H; intro _ H)) | refine Sm.strix T.ok ?_) | ((((conv => whnf); refine Cl.mk (letter_r d _) ?_); rintro _ _ ⟨rfl, hx⟩; replace H := H.ext hx; clear hx); rw [Bool.eq_false_iff.2 hdl]) | ((((conv => whnf); refine Cl.mk (digit_r d _) ?_); rintro _ _ ⟨rfl, hx⟩; replace H := H.ext hx; clear hx); rw [hdd]))
          all_goals first | (exfalso; omega) | skip
          exact ⟨e + 1, ⟨at_int rfl hwe, rfl, rfl, rfl, trivial⟩, rfl, ⟨by omega, by omega, by omega, H⟩, by omega⟩
        · rw [if_neg (by simp [alnum, hdl, hdd])] at hsa
          have he := hend (hfin hsa)
          repeat' (first | ((conv => whnf); first | ((with_reducible show Gd (bs _ == _) _ _); first | refine Gd.sY (by assumption) ?_ | refine Gd.sk (by assumption) ?_ | refine Gd.sN (by assumption) ?_) | ((conv => whnf); first | (((with_reducible show Gd ..); first | (with_reducible first | refine Gd.t ?_ | refine Gd.f ?_ | (first | apply Gd.dec | apply Gd.beq | apply Gd.bne) <;> intro _ | refine Gd.not ?_) | refine Gd.t ?_ | refine Gd.f ?_ | apply Gd.var <;> intro _) <;> try (exfalso; omega)) | with_reducible refine Sq.mk ?_ | ((with_reducible show Ld1 ..); first | refine Ld1.h H ?_ | refine Ld1.rF ?_ | refine Ld1.r ?_) | ((with_reducible show Ld ..); first | refine Ld.h H ?_ | refine Ld.r ?_) | ((with_reducible show Ix ..); first | refine Ix.h ?_ | refine Ix.ha ?_) | (refine Al.hp H ?_; clear H; intro _ _ H _) | (refine St.h H ?_; clear H; intro _ H)) | refine Sm.strix T.ok ?_) | ((((conv => whnf); refine Cl.mk (letter_r d _) ?_); rintro _ _ ⟨rfl, hx⟩; replace H := H.ext hx; clear hx); rw [Bool.eq_false_iff.2 hdl]) | ((((conv => whnf); refine Cl.mk (digit_r d _) ?_); rintro _ _ ⟨rfl, hx⟩; replace H := H.ext hx; clear hx); rw [Bool.eq_false_iff.2 hdd]) | refine Sm.strcut T.ok hae hel ?_ | (((conv => whnf); refine Cl.mk (keyword_r ((l.drop a).take (e - a)) _) ?_); rintro _ _ ⟨rfl, hx⟩; replace H := H.ext hx; clear hx))
          all_goals first | (exfalso; omega) | skip
          · exact (he _ H.e).1 (by omega)
          · exact ((he _ H.e).2 (by omega)).1 (by assumption)
          · exact ((he _ H.e).2 (by omega)).2 (by assumption)
    · have he := hend (hfin (span_end (by omega)))
      repeat' (first | ((conv => whnf); first | ((with_reducible show Gd (bs _ == _) _ _); first | refine Gd.sY (by assumption) ?_ | refine Gd.sk (by assumption) ?_ | refine Gd.sN (by assumption) ?_) | ((conv => whnf); first | (((with_reducible show Gd ..); first | (with_reducible first | refine Gd.t ?_ | refine Gd.f ?_ | (first | apply Gd.dec | apply Gd.beq | apply Gd.bne) <;> intro _ | refine Gd.not ?_) | refine Gd.t ?_ | refine Gd.f ?_ | apply Gd.var <;> intro _) <;> try (exfalso; omega)) | with_reducible refine Sq.mk ?_ | ((with_reducible show Ld1 ..); first | refine Ld1.h H ?_ | refine Ld1.rF ?_ | refine Ld1.r ?_) | ((with_reducible show Ld ..); first | refine Ld.h H ?_ | refine Ld.r ?_) | ((with_reducible show Ix ..); first | refine Ix.h ?_ | refine Ix.ha ?_) | (refine Al.hp H ?_; clear H; intro _ _ H _) | (refine St.h H ?_; clear H; intro _ H)) | refine Sm.strix T.ok ?_) | refine Sm.strcut T.ok hae hel ?_ | (((conv => whnf); refine Cl.mk (keyword_r ((l.drop a).take (e - a)) _) ?_); rintro _ _ ⟨rfl, hx⟩; replace H := H.ext hx; clear hx))
      all_goals first | (exfalso; omega) | skip
      · exact (he _ H.e).1 (by omega)
      · exact ((he _ H.e).2 (by omega)).1 (by assumption)
      · exact ((he _ H.e).2 (by omega)).2 (by assumption)
  · rw [if_neg hle]
    have hlef := Bool.eq_false_iff.2 hle
    by_cases hdi : digit c = true
    · rw [if_pos hdi]
      repeat' (first | ((conv => whnf); first | ((with_reducible show Gd (bs _ == _) _ _); first | refine Gd.sY (by assumption) ?_ | refine Gd.sk (by assumption) ?_ | refine Gd.sN (by assumption) ?_) | ((conv => whnf); first | (((with_reducible show Gd ..); first | (with_reducible first | refine Gd.t ?_ | refine Gd.f ?_ | (first | apply Gd.dec | apply Gd.beq | apply Gd.bne) <;> intro _ | refine Gd.not ?_) | refine Gd.t ?_ | refine Gd.f ?_ | apply Gd.var <;> intro _) <;> try (exfalso; omega)) | with_reducible refine Sq.mk ?_ | ((with_reducible show Ld1 ..); first | refine Ld1.h H ?_ | refine Ld1.rF ?_ | refine Ld1.r ?_) | ((with_reducible show Ld ..); first | refine Ld.h H ?_ | refine Ld.r ?_) | ((with_reducible show Ix ..); first | refine Ix.h ?_ | refine Ix.ha ?_) | (refine Al.hp H ?_; clear H; intro _ _ H _) | (refine St.h H ?_; clear H; intro _ H)) | refine Sm.strix T.ok ?_) | ((((conv => whnf); refine Cl.mk (letter_r c _) ?_); rintro _ _ ⟨rfl, hx⟩; replace H := H.ext hx; clear hx); rw [hlef]) | ((((conv => whnf); refine Cl.mk (digit_r c _) ?_); rintro _ _ ⟨rfl, hx⟩; replace H := H.ext hx; clear hx); rw [hdi]))
      all_goals first | (exfalso; omega) | skip
      have hall : ∀ e, e - a = spanN digit (l.drop a) → Digs ((l.drop a).take (e - a)) := fun e h d hd => by
        rw [h] at hd
        exact span_all digit _ d hd
      have hnn : ∀ e, e - a = spanN digit (l.drop a) → (l.drop a).take (e - a) ≠ [] := fun e h => by
        rw [h, hcr]
        simp [spanN, hdi]
      refine Lp.g0 T.ok (σ := Nat) (fun e => [(5, .int .i64 (e : Int)), (1, .int .i64 (a : Int)), (0, .string (bs l)), (4, .pointer (some ⟨p4, 0, none⟩))])
        (fun e w' => a ≤ e ∧ e ≤ l.length ∧ spanN digit (l.drop e) + (e - a) = spanN digit (l.drop a) ∧ Hp nw w w' [bk p4 99 T.t99.zero.cells.toList]) (fun e _ => l.length - e) a rfl ⟨rfl, rfl, rfl, rfl, trivial⟩ ⟨Nat.le_refl _, hal, by omega, H⟩ ?_
      clear H
      rintro e w5 ⟨hae, hel, hsp, H⟩
      have hfin : spanN digit (l.drop e) = 0 → e - a = spanN digit (l.drop a) := fun h => by omega
      have hcl : ((l.drop a).take (e - a)).length = e - a := by rw [List.length_take, List.length_drop]; omega
      have hend : e - a = spanN digit (l.drop a) → ∀ w', Ext w w' → Value.agg #[.string (bs (rKind (number ((l.drop a).take (e - a)) 0))), .int .i64 (a : Int), .string (bs ((l.drop a).take (e - a))), .int .i64 (number ((l.drop a).take (e - a)) 0).err] = .agg (rwE l (number ((l.drop a).take (spanN digit (l.drop a))) a)).toArray ∧ Ext w w' := fun h w' ex => by
        rw [← h]
        obtain ⟨h1, h2, h3, h4⟩ := num_err ((l.drop a).take (e - a)) a
        refine ⟨?_, ex⟩
        unfold rwE rText
        rw [if_neg h4, num_kind _ a, h1, h2, h3]
      by_cases hlt2 : e < l.length
      · obtain ⟨d, hd⟩ : ∃ d, l[e]? = some d := ⟨_, List.getElem?_eq_getElem hlt2⟩
        have hwe : IntKind.i64.wrap ((e : Int) + 1) = ((e + 1 : Nat) : Int) := w64 rfl (by omega) (by omega)
        have hsa := span_at (f := digit) hd
        by_cases hdd : digit d = true
        · rw [if_pos hdd] at hsa
          repeat' (first | ((conv => whnf); first | ((with_reducible show Gd (bs _ == _) _ _); first | refine Gd.sY (by assumption) ?_ | refine Gd.sk (by assumption) ?_ | refine Gd.sN (by assumption) ?_) | ((conv => whnf); first | (((with_reducible show Gd ..); first | (with_reducible first | refine Gd.t ?_ | refine Gd.f ?_ | (first | apply Gd.dec | apply Gd.beq | apply Gd.bne) <;> intro _ | refine Gd.not ?_) | refine Gd.t ?_ | refine Gd.f ?_ | apply Gd.var <;> intro _) <;> try (exfalso; omega)) | with_reducible refine Sq.mk ?_ | ((with_reducible show Ld1 ..); first | refine Ld1.h H ?_ | refine Ld1.rF ?_ | refine Ld1.r ?_) | ((with_reducible show Ld ..); first | refine Ld.h H ?_ | refine Ld.r ?_) | ((with_reducible show Ix ..); first | refine Ix.h ?_ | refine Ix.ha ?_) | (refine Al.hp H ?_; clear H; intro _ _ H _) | (refine St.h H ?_; clear H; intro _ H)) | refine Sm.strix T.ok ?_) | ((((conv => whnf); refine Cl.mk (digit_r d _) ?_); rintro _ _ ⟨rfl, hx⟩; replace H := H.ext hx; clear hx); rw [hdd]))
          all_goals first | (exfalso; omega) | skip
          exact ⟨e + 1, ⟨at_int rfl hwe, rfl, rfl, rfl, trivial⟩, rfl, ⟨by omega, by omega, by omega, H⟩, by omega⟩
        · rw [if_neg hdd] at hsa
          have he := hfin hsa
          repeat' (first | ((conv => whnf); first | ((with_reducible show Gd (bs _ == _) _ _); first | refine Gd.sY (by assumption) ?_ | refine Gd.sk (by assumption) ?_ | refine Gd.sN (by assumption) ?_) | ((conv => whnf); first | (((with_reducible show Gd ..); first | (with_reducible first | refine Gd.t ?_ | refine Gd.f ?_ | (first | apply Gd.dec | apply Gd.beq | apply Gd.bne) <;> intro _ | refine Gd.not ?_) | refine Gd.t ?_ | refine Gd.f ?_ | apply Gd.var <;> intro _) <;> try (exfalso; omega)) | with_reducible refine Sq.mk ?_ | ((with_reducible show Ld1 ..); first | refine Ld1.h H ?_ | refine Ld1.rF ?_ | refine Ld1.r ?_) | ((with_reducible show Ld ..); first | refine Ld.h H ?_ | refine Ld.r ?_) | ((with_reducible show Ix ..); first | refine Ix.h ?_ | refine Ix.ha ?_) | (refine St.h H ?_; clear H; intro _ H)) | refine Sm.strix T.ok ?_) | ((((conv => whnf); refine Cl.mk (digit_r d _) ?_); rintro _ _ ⟨rfl, hx⟩; replace H := H.ext hx; clear hx); rw [Bool.eq_false_iff.2 hdd]) | refine Sm.strcut T.ok hae hel ?_ | (((conv => whnf); refine Cl.mk (numberKind_r ((l.drop a).take (e - a)) _ (hall e he) (hnn e he) (by omega)) ?_); rintro _ _ ⟨rfl, hx⟩; replace H := H.ext hx; clear hx))
          all_goals first | (exfalso; omega) | skip
          ((conv => whnf); refine Al.hp H ?_; clear H; intro p8 _ H _)
          repeat' (first | ((conv => whnf); first | ((with_reducible show Gd (bs _ == _) _ _); first | refine Gd.sY (by assumption) ?_ | refine Gd.sk (by assumption) ?_ | refine Gd.sN (by assumption) ?_) | ((conv => whnf); first | (((with_reducible show Gd ..); first | (with_reducible first | refine Gd.t ?_ | refine Gd.f ?_ | (first | apply Gd.dec | apply Gd.beq | apply Gd.bne) <;> intro _ | refine Gd.not ?_) | refine Gd.t ?_ | refine Gd.f ?_ | apply Gd.var <;> intro _) <;> try (exfalso; omega)) | with_reducible refine Sq.mk ?_ | ((with_reducible show Ld1 ..); first | refine Ld1.h H ?_ | refine Ld1.rF ?_ | refine Ld1.r ?_) | ((with_reducible show Ld ..); first | refine Ld.h H ?_ | refine Ld.r ?_) | ((with_reducible show Ix ..); first | refine Ix.h ?_ | refine Ix.ha ?_) | (refine St.h H ?_; clear H; intro _ H)) | refine Sm.strix T.ok ?_) | refine Sm.strcut T.ok hae hel ?_)
          exact hend he _ H.e
      · have he := hfin (span_end (by omega))
        repeat' (first | ((conv => whnf); first | ((with_reducible show Gd (bs _ == _) _ _); first | refine Gd.sY (by assumption) ?_ | refine Gd.sk (by assumption) ?_ | refine Gd.sN (by assumption) ?_) | ((conv => whnf); first | (((with_reducible show Gd ..); first | (with_reducible first | refine Gd.t ?_ | refine Gd.f ?_ | (first | apply Gd.dec | apply Gd.beq | apply Gd.bne) <;> intro _ | refine Gd.not ?_) | refine Gd.t ?_ | refine Gd.f ?_ | apply Gd.var <;> intro _) <;> try (exfalso; omega)) | with_reducible refine Sq.mk ?_ | ((with_reducible show Ld1 ..); first | refine Ld1.h H ?_ | refine Ld1.rF ?_ | refine Ld1.r ?_) | ((with_reducible show Ld ..); first | refine Ld.h H ?_ | refine Ld.r ?_) | ((with_reducible show Ix ..); first | refine Ix.h ?_ | refine Ix.ha ?_) | (refine St.h H ?_; clear H; intro _ H)) | refine Sm.strix T.ok ?_) | refine Sm.strcut T.ok hae hel ?_ | (((conv => whnf); refine Cl.mk (numberKind_r ((l.drop a).take (e - a)) _ (hall e he) (hnn e he) (by omega)) ?_); rintro _ _ ⟨rfl, hx⟩; replace H := H.ext hx; clear hx))
        all_goals first | (exfalso; omega) | skip
        ((conv => whnf); refine Al.hp H ?_; clear H; intro p8 _ H _)
        repeat' (first | ((conv => whnf); first | ((with_reducible show Gd (bs _ == _) _ _); first | refine Gd.sY (by assumption) ?_ | refine Gd.sk (by assumption) ?_ | refine Gd.sN (by assumption) ?_) | ((conv => whnf); first | (((with_reducible show Gd ..); first | (with_reducible first | refine Gd.t ?_ | refine Gd.f ?_ | (first | apply Gd.dec | apply Gd.beq | apply Gd.bne) <;> intro _ | refine Gd.not ?_) | refine Gd.t ?_ | refine Gd.f ?_ | apply Gd.var <;> intro _) <;> try (exfalso; omega)) | with_reducible refine Sq.mk ?_ | ((with_reducible show Ld1 ..); first | refine Ld1.h H ?_ | refine Ld1.rF ?_ | refine Ld1.r ?_) | ((with_reducible show Ld ..); first | refine Ld.h H ?_ | refine Ld.r ?_) | ((with_reducible show Ix ..); first | refine Ix.h ?_ | refine Ix.ha ?_) | (refine St.h H ?_; clear H; intro _ H)) | refine Sm.strix T.ok ?_) | refine Sm.strcut T.ok hae hel ?_)
        exact hend he _ H.e
    · rw [if_neg hdi]
      have hdif := Bool.eq_false_iff.2 hdi
      have hwa1 : IntKind.i64.wrap ((a : Int) + 1) = ((a + 1 : Nat) : Int) := w64 rfl (by omega) (by omega)
      repeat' (first | ((conv => whnf); first | ((with_reducible show Gd (bs _ == _) _ _); first | refine Gd.sY (by assumption) ?_ | refine Gd.sk (by assumption) ?_ | refine Gd.sN (by assumption) ?_) | ((conv => whnf); first | (((with_reducible show Gd ..); first | (with_reducible first | refine Gd.t ?_ | refine Gd.f ?_ | (first | apply Gd.dec | apply Gd.beq | apply Gd.bne) <;> intro _ | refine Gd.not ?_) | refine Gd.t ?_ | refine Gd.f ?_ | apply Gd.var <;> intro _) <;> try (exfalso; omega)) | with_reducible refine Sq.mk ?_ | ((with_reducible show Ld1 ..); first | refine Ld1.h H ?_ | refine Ld1.rF ?_ | refine Ld1.r ?_) | ((with_reducible show Ld ..); first | refine Ld.h H ?_ | refine Ld.r ?_) | ((with_reducible show Ix ..); first | refine Ix.h ?_ | refine Ix.ha ?_) | (refine Al.hp H ?_; clear H; intro _ _ H _) | (refine St.h H ?_; clear H; intro _ H)) | refine Sm.strix T.ok ?_) | ((((conv => whnf); refine Cl.mk (letter_r c _) ?_); rintro _ _ ⟨rfl, hx⟩; replace H := H.ext hx; clear hx); rw [hlef]) | ((((conv => whnf); refine Cl.mk (digit_r c _) ?_); rintro _ _ ⟨rfl, hx⟩; replace H := H.ext hx; clear hx); rw [hdif]))
      all_goals first | (exfalso; omega) | skip
      (((conv => whnf); refine Cl.mk (sign_r l a _ hal hl) ?_); rintro _ _ ⟨rfl, hx⟩; replace H := H.ext hx; clear hx)
      cases hs : signAt (l.drop a) with
      | none =>
        simp only [Option.getD_none]
        repeat' (first | ((conv => whnf); first | ((with_reducible show Gd (bs _ == _) _ _); first | refine Gd.sY (by assumption) ?_ | refine Gd.sk (by assumption) ?_ | refine Gd.sN (by assumption) ?_) | ((conv => whnf); first | (((with_reducible show Gd ..); first | (with_reducible first | refine Gd.t ?_ | refine Gd.f ?_ | (first | apply Gd.dec | apply Gd.beq | apply Gd.bne) <;> intro _ | refine Gd.not ?_) | refine Gd.t ?_ | refine Gd.f ?_ | apply Gd.var <;> intro _) <;> try (exfalso; omega)) | with_reducible refine Sq.mk ?_ | ((with_reducible show Ld1 ..); first | refine Ld1.h H ?_ | refine Ld1.rF ?_ | refine Ld1.r ?_) | ((with_reducible show Ld ..); first | refine Ld.h H ?_ | refine Ld.r ?_) | ((with_reducible show Ix ..); first | refine Ix.h ?_ | refine Ix.ha ?_) | (refine Al.hp H ?_; clear H; intro _ _ H _) | (refine St.h H ?_; clear H; intro _ H)) | refine Sm.strix T.ok ?_) | refine Sm.strcut (i := a) (j := a + 1) T.ok (by omega) (by omega) ?_)
        all_goals first | (exfalso; omega) | skip
        refine ⟨?_, H.e⟩
        show Value.agg #[.string (bs k_bad), .int .i64 (a : Int), .string (bs ((l.drop a).take (a + 1 - a))), .int .i64 140] = _
        rw [Nat.add_sub_cancel_left]; rfl
      | some t =>
        have htn : t ≠ [] := by
          have := (sign_len hs).1
          rintro rfl
          simp at this
        simp only [Option.getD_some]
        repeat' ((conv => whnf); first | ((with_reducible show Gd (bs _ == _) _ _); first | refine Gd.sY (by assumption) ?_ | refine Gd.sk (by assumption) ?_ | refine Gd.sN (by assumption) ?_) | ((conv => whnf); first | (((with_reducible show Gd ..); first | (with_reducible first | refine Gd.t ?_ | refine Gd.f ?_ | (first | apply Gd.dec | apply Gd.beq | apply Gd.bne) <;> intro _ | refine Gd.not ?_) | refine Gd.t ?_ | refine Gd.f ?_ | apply Gd.var <;> intro _) <;> try (exfalso; omega)) | with_reducible refine Sq.mk ?_ | ((with_reducible show Ld1 ..); first | refine Ld1.h H ?_ | refine Ld1.rF ?_ | refine Ld1.r ?_) | ((with_reducible show Ld ..); first | refine Ld.h H ?_ | refine Ld.r ?_) | ((with_reducible show Ix ..); first | refine Ix.h ?_ | refine Ix.ha ?_) | (refine Al.hp H ?_; clear H; intro _ _ H _) | (refine St.h H ?_; clear H; intro _ H)) | refine Sm.strix T.ok ?_)
        refine ⟨?_, H.e⟩
        unfold rwE
        rw [rk0]; rfl
theorem skp_idem : ∀ (b : Bool) (l : Bs) (p : Nat), skp false (l.drop (skp b l p - p)) (skp b l p) = skp b l p
  | false, [], p => by simp [skp]
  | true, [], p => by simp [skp]
  | false, c :: r, p => by
    have h1 := skp_idem false r (p + 1)
    have h2 := skp_idem true r (p + 1)
    have r1 := (skp_range false r (p + 1)).1
    have r2 := (skp_range true r (p + 1)).1
    simp only [skp]
    split
    · rw [show skp false r (p + 1) - p = (skp false r (p + 1) - (p + 1)) + 1 by omega, List.drop_succ_cons]; exact h1
    · split
      · rw [show skp true r (p + 1) - p = (skp true r (p + 1) - (p + 1)) + 1 by omega, List.drop_succ_cons]; exact h2
      · rename_i g1 g2
        rw [Nat.sub_self, List.drop_zero]
        simp only [skp]
        rw [if_neg g1, if_neg g2]
  | true, c :: r, p => by
    have h1 := skp_idem false r (p + 1)
    have h2 := skp_idem true r (p + 1)
    have r1 := (skp_range false r (p + 1)).1
    have r2 := (skp_range true r (p + 1)).1
    simp only [skp]
    split
    · rw [show skp false r (p + 1) - p = (skp false r (p + 1) - (p + 1)) + 1 by omega, List.drop_succ_cons]; exact h1
    · rw [show skp true r (p + 1) - p = (skp true r (p + 1) - (p + 1)) + 1 by omega, List.drop_succ_cons]; exact h2
theorem kw_ne {s : Bs} (h : isKw s = true) : s ≠ k_bad ∧ s ≠ k_end ∧ s ≠ k_least := by
  have h1 : ∀ t ∈ keywords, t ≠ k_bad ∧ t ≠ k_end ∧ t ≠ k_least := by decide
  exact h1 s (List.contains_iff_mem.1 h)
theorem named_k (s : Bs) (a : Nat) : (named s a).text = s ∧ (named s a).kind ≠ k_bad ∧ (named s a).kind ≠ k_end ∧ (named s a).kind ≠ k_least := by
  unfold named
  split
  · rename_i h
    exact ⟨rfl, kw_ne h⟩
  · exact ⟨rfl, by show k_name ≠ k_bad; decide, by show k_name ≠ k_end; decide, by show k_name ≠ k_least; decide⟩
theorem number_k (s : Bs) (a : Nat) : (number s a).kind = k_number := by unfold number; cases negOf s <;> rfl
theorem sign_k {l t : Bs} (h : signAt l = some t) : t ≠ k_bad ∧ t ≠ k_end ∧ t ≠ k_least := by
  have h1 : ∀ t ∈ signs, t ≠ k_bad ∧ t ≠ k_end ∧ t ≠ k_least := by decide
  exact h1 t (List.mem_of_find?_eq_some h)
theorem rd_kind (l : Bs) (a : Nat) : (rdAt l a).1.kind ≠ k_bad ∧ (rdAt l a).1.kind ≠ k_least ∧ (a < l.length → (rdAt l a).1.kind ≠ k_end) := by
  unfold rdAt
  split
  · rename_i h
    refine ⟨by show k_end ≠ k_bad; decide, by show k_end ≠ k_least; decide, fun h2 => ?_⟩
    have := congrArg List.length h
    rw [List.length_drop, List.length_nil] at this
    omega
  · split
    · obtain ⟨_, h1, h2, h3⟩ := named_k ((List.take (spanN alnum (_ :: _)) (_ :: _))) a
      exact ⟨h1, h3, fun _ => h2⟩
    · split
      · show (number _ a).kind ≠ _ ∧ (number _ a).kind ≠ _ ∧ (_ → (number _ a).kind ≠ _)
        rw [number_k]
        exact ⟨by decide, by decide, fun _ => by decide⟩
      · split
        · rename_i t hs
          exact ⟨(sign_k hs).1, (sign_k hs).2.2, fun _ => (sign_k hs).2.1⟩
        · exact ⟨by show ([] : Bs) ≠ k_bad; decide, by show ([] : Bs) ≠ k_least; decide, fun _ => by show ([] : Bs) ≠ k_end; decide⟩
theorem rd_text {l : Bs} {a : Nat} (ha : a < l.length) (he : (rdAt l a).1.err = 0) : (rdAt l a).2 = a + (rText l (rdAt l a).1).length ∧ (rdAt l a).2 ≤ l.length ∧ a < (rdAt l a).2 := by
  obtain ⟨c, r, hcr⟩ : ∃ c r, l.drop a = c :: r := ⟨l[a], _, List.drop_eq_getElem_cons ha⟩
  have hl : (c :: r).length = l.length - a := by rw [← hcr, List.length_drop]
  have ht : rText l (rdAt l a).1 = (rdAt l a).1.text := by
    unfold rText
    rw [if_neg (by rw [he]; decide)]
  rw [ht]
  by_cases hc : letter c = true
  · have e : rdAt l a = (named ((c :: r).take (spanN alnum (c :: r))) a, a + spanN alnum (c :: r)) := by unfold rdAt; rw [hcr]; simp only; rw [if_pos hc]
    have h1 : 1 ≤ spanN alnum (c :: r) := span_pos (by simp [alnum, hc])
    have h2 := span_le alnum (c :: r)
    rw [e]
    refine ⟨?_, by simp only; omega, by simp only; omega⟩
    simp only
    rw [(named_k _ a).1, List.length_take]; omega
  · by_cases hd : digit c = true
    · have e : rdAt l a = (number ((c :: r).take (spanN digit (c :: r))) a, a + spanN digit (c :: r)) := by unfold rdAt; rw [hcr]; simp only; rw [if_neg hc, if_pos hd]
      have h1 : 1 ≤ spanN digit (c :: r) := span_pos hd
      have h2 := span_le digit (c :: r)
      rw [e]
      refine ⟨?_, by simp only; omega, by simp only; omega⟩
      simp only
      rw [(num_err _ a).2.1, List.length_take]; omega
    · cases hs : signAt (c :: r) with
      | none =>
        have e : rdAt l a = (⟨[], [], a, 0, 140⟩, a + 1) := by unfold rdAt; rw [hcr]; simp only; rw [if_neg hc, if_neg hd, hs]
        rw [e] at he
        simp at he
      | some t =>
        have e : rdAt l a = (⟨t, t, a, 0, 0⟩, a + t.length) := by unfold rdAt; rw [hcr]; simp only; rw [if_neg hc, if_neg hd, hs]
        have h1 := sign_len hs
        rw [e]
        exact ⟨rfl, by simp only; omega, by simp only; omega⟩
theorem rk_bad {l : Bs} {a : Nat} : rKind (rdAt l a).1 = k_bad ↔ (rdAt l a).1.err ≠ 0 := by
  constructor
  · intro h e
    unfold rKind at h
    rw [if_neg (fun h => h e)] at h
    split at h
    · revert h; decide
    · exact (rd_kind l a).1 h
  · intro h
    unfold rKind
    rw [if_pos h]
theorem rwE_end (l : Bs) : rwE l ⟨k_end, [], l.length, 0, 0⟩ = [.string (bs k_end), .int .i64 (l.length : Int), .string (bs []), .int .i64 0] := by unfold rwE; rw [rk0]; rfl
set_option maxHeartbeats 4000000 in
theorem Words_r (l : Bs) (w : World) (hl : l.length ≤ 100000) :
    Cl Tryz.prog 27 #[.string (bs l)] w (fun v w' => ∃ A c, v = .slice A (words l (l.length + 1) 0).length c ∧ Hp nw w w' [qu (rwE l) 4 99 A c (words l (l.length + 1) 0)]) (fun _ _ => False) := by
  refine calls_ex (args := [.string (bs l)]) T.ok Tryz.func27 rfl rfl rfl rfl ?_
  have H := Hp.begin nw w
  have hsz := bs_size l
  replace H := Hp.nil H (rwE l) 4 99
  repeat' ((conv => whnf); first | (((with_reducible show Gd ..); first | (with_reducible first | refine Gd.t ?_ | refine Gd.f ?_ | (first | apply Gd.dec | apply Gd.beq | apply Gd.bne) <;> intro _ | refine Gd.not ?_) | refine Gd.t ?_ | refine Gd.f ?_ | apply Gd.var <;> intro _) <;> try (exfalso; omega)) | with_reducible refine Sq.mk ?_ | ((with_reducible show Ld1 ..); first | refine Ld1.h H ?_ | refine Ld1.rF ?_ | refine Ld1.r ?_) | ((with_reducible show Ld ..); first | refine Ld.h H ?_ | refine Ld.r ?_) | ((with_reducible show Ix ..); first | refine Ix.h ?_ | refine Ix.ha ?_) | (refine Al.hp H ?_; clear H; intro _ _ H _) | (refine St.h H ?_; clear H; intro _ H))
  (((conv => whnf); refine Cl.mk (blanks_r l 0 _ (Nat.zero_le _) (by omega)) ?_); rintro _ _ ⟨rfl, hx⟩; replace H := H.ext hx; clear hx)
  repeat' ((conv => whnf); first | (((with_reducible show Gd ..); first | (with_reducible first | refine Gd.t ?_ | refine Gd.f ?_ | (first | apply Gd.dec | apply Gd.beq | apply Gd.bne) <;> intro _ | refine Gd.not ?_) | refine Gd.t ?_ | refine Gd.f ?_ | apply Gd.var <;> intro _) <;> try (exfalso; omega)) | with_reducible refine Sq.mk ?_ | ((with_reducible show Ld1 ..); first | refine Ld1.h H ?_ | refine Ld1.rF ?_ | refine Ld1.r ?_) | ((with_reducible show Ld ..); first | refine Ld.h H ?_ | refine Ld.r ?_) | ((with_reducible show Ix ..); first | refine Ix.h ?_ | refine Ix.ha ?_) | (refine Al.hp H ?_; clear H; intro _ _ H _) | (refine St.h H ?_; clear H; intro _ H))
  refine Lp.g0 T.ok (σ := Nat × Nat × Option Addr × Nat × List Tk) (fun q => [(0, .string (bs l)), (4, .int .i64 (skp false (l.drop q.2.1) q.2.1 : Int)), (3, .slice q.2.2.1 q.2.2.2.2.length q.2.2.2.1)])
    (fun q w' => q.2.1 ≤ l.length ∧ l.length < q.1 + q.2.1 ∧ q.1 + q.2.2.2.2.length ≤ l.length + 1 ∧ q.2.2.2.2 ++ words l q.1 q.2.1 = words l (l.length + 1) 0 ∧ Hp nw w w' [qu (rwE l) 4 99 q.2.2.1 q.2.2.2.1 q.2.2.2.2]) (fun q _ => q.1) (l.length + 1, 0, none, 0, []) rfl ⟨rfl, rfl, rfl, trivial⟩ ⟨Nat.zero_le _, by omega, by simp, rfl, H⟩ ?_
  clear H
  rintro ⟨n, p, A, c, m⟩ w5 ⟨hp, hn, hm, hw, H⟩
  simp only at hp hn hm hw H ⊢
  cases n with
  | zero => omega
  | succ n =>
  obtain ⟨hr1, hr2⟩ := skp_range false (l.drop p) p
  rw [List.length_drop] at hr2
  have hid := skp_idem false (l.drop p) p
  rw [List.drop_drop, Nat.add_sub_cancel' hr1] at hid
  have hrd := read_rd l p
  rw [words_succ, hrd] at hw
  generalize ha : skp false (l.drop p) p = a at *
  by_cases hlt : a < l.length
  case neg =>
    have hE : rdAt l a = (⟨k_end, [], l.length, 0, 0⟩, l.length) := by
      unfold rdAt
      rw [List.drop_of_length_le (by omega)]
    rw [hE, if_pos (.inr rfl)] at hw
    repeat' ((conv => whnf); first | (((with_reducible show Gd ..); first | (with_reducible first | refine Gd.t ?_ | refine Gd.f ?_ | (first | apply Gd.dec | apply Gd.beq | apply Gd.bne) <;> intro _ | refine Gd.not ?_) | refine Gd.t ?_ | refine Gd.f ?_ | apply Gd.var <;> intro _) <;> try (exfalso; omega)) | with_reducible refine Sq.mk ?_ | ((with_reducible show Ld1 ..); first | refine Ld1.h H ?_ | refine Ld1.rF ?_ | refine Ld1.r ?_) | ((with_reducible show Ld ..); first | refine Ld.h H ?_ | refine Ld.r ?_) | ((with_reducible show Ix ..); first | refine Ix.h ?_ | refine Ix.ha ?_) | (refine St.h H ?_; clear H; intro _ H))
    all_goals first | (exfalso; omega) | skip
    (conv => whnf)
    refine Sm.lith (cs := rwE l ⟨k_end, [], l.length, 0, 0⟩) H T.ok (fun p w4 H _ => ?_) (hcs := by rw [rwE_end, ← hsz]; rfl)
    refine Sm.ap1 (enc := rwE l) ⟨k_end, [], l.length, 0, 0⟩ H T.ok ?_ ?_ (fun A' c' w6 H => ?_)
    · show (m.length + 1) * 48 ≤ _; omega
    · omega
    simp only [List.nil_append] at H
    repeat' ((conv => whnf); first | (((with_reducible show Gd ..); first | (with_reducible first | refine Gd.t ?_ | refine Gd.f ?_ | (first | apply Gd.dec | apply Gd.beq | apply Gd.bne) <;> intro _ | refine Gd.not ?_) | refine Gd.t ?_ | refine Gd.f ?_ | apply Gd.var <;> intro _) <;> try (exfalso; omega)) | with_reducible refine Sq.mk ?_ | ((with_reducible show Ld1 ..); first | refine Ld1.h H ?_ | refine Ld1.rF ?_ | refine Ld1.r ?_) | ((with_reducible show Ld ..); first | refine Ld.h H ?_ | refine Ld.r ?_) | ((with_reducible show Ix ..); first | refine Ix.h ?_ | refine Ix.ha ?_) | (refine St.h H ?_; clear H; intro _ H))
    have hm1 : m.length + 1 = (m ++ [(⟨k_end, [], l.length, 0, 0⟩ : Tk)]).length := by simp
    rw [← hw]
    exact ⟨A', c', by rw [hm1]; rfl, H⟩
  repeat' ((conv => whnf); first | (((with_reducible show Gd ..); first | (with_reducible first | refine Gd.t ?_ | refine Gd.f ?_ | (first | apply Gd.dec | apply Gd.beq | apply Gd.bne) <;> intro _ | refine Gd.not ?_) | refine Gd.t ?_ | refine Gd.f ?_ | apply Gd.var <;> intro _) <;> try (exfalso; omega)) | with_reducible refine Sq.mk ?_ | ((with_reducible show Ld1 ..); first | refine Ld1.h H ?_ | refine Ld1.rF ?_ | refine Ld1.r ?_) | ((with_reducible show Ld ..); first | refine Ld.h H ?_ | refine Ld.r ?_) | ((with_reducible show Ix ..); first | refine Ix.h ?_ | refine Ix.ha ?_) | (refine St.h H ?_; clear H; intro _ H))
  all_goals first | (exfalso; omega) | skip
  (((conv => whnf); refine Cl.mk (word_r l a _ hlt (by omega)) ?_); rintro _ _ ⟨rfl, hx⟩; replace H := H.ext hx; clear hx)
  ((conv => whnf); refine Al.hp H ?_; clear H; intro p5 _ H _)
  repeat' ((conv => whnf); first | (((with_reducible show Gd ..); first | (with_reducible first | refine Gd.t ?_ | refine Gd.f ?_ | (first | apply Gd.dec | apply Gd.beq | apply Gd.bne) <;> intro _ | refine Gd.not ?_) | refine Gd.t ?_ | refine Gd.f ?_ | apply Gd.var <;> intro _) <;> try (exfalso; omega)) | with_reducible refine Sq.mk ?_ | ((with_reducible show Ld1 ..); first | refine Ld1.h H ?_ | refine Ld1.rF ?_ | refine Ld1.r ?_) | ((with_reducible show Ld ..); first | refine Ld.h H ?_ | refine Ld.r ?_) | ((with_reducible show Ix ..); first | refine Ix.h ?_ | refine Ix.ha ?_) | (refine St.h H ?_; clear H; intro _ H))
  refine Sm.lith (cs := rwE l (rdAt l a).1) H T.ok (fun p w4 H _ => ?_)
  refine Sm.ap1 (enc := rwE l) (rdAt l a).1 H T.ok ?_ ?_ (fun A' c' w6 H => ?_)
  · show (m.length + 1) * 48 ≤ _; omega
  · omega
  simp only [List.cons_append, List.nil_append] at H
  have hfix : ∀ w', Hp nw w w' [bk p5 99 (rwE l (rdAt l a).1), qu (rwE l) 4 99 A' c' (m ++ [(rdAt l a).1])] → Hp nw w w' [bk p5 99 (rwE l (rdAt l a).1), qu (rwE l) 4 99 A' c' (m ++ [(rdAt l a).1])] := fun _ h => h
  replace H := hfix _ H
  clear hfix
  have hm1 : m.length + 1 = (m ++ [(rdAt l a).1]).length := by simp
  by_cases he : (rdAt l a).1.err = 0
  · have hk : ¬ rKind (rdAt l a).1 = k_bad := fun h => (rk_bad.1 h) he
    rw [if_neg (fun h => by rcases h with h | h; exact h he; exact (rd_kind l a).2.2 hlt h)] at hw
    obtain ⟨g1, g2, g3⟩ := rd_text hlt he
    have hsz2 := bs_size (rText l (rdAt l a).1)
    repeat' ((conv => whnf); first | ((with_reducible show Gd (bs _ == _) _ _); first | refine Gd.sY (by assumption) ?_ | refine Gd.sk (by assumption) ?_ | refine Gd.sN (by assumption) ?_) | ((conv => whnf); first | (((with_reducible show Gd ..); first | (with_reducible first | refine Gd.t ?_ | refine Gd.f ?_ | (first | apply Gd.dec | apply Gd.beq | apply Gd.bne) <;> intro _ | refine Gd.not ?_) | refine Gd.t ?_ | refine Gd.f ?_ | apply Gd.var <;> intro _) <;> try (exfalso; omega)) | with_reducible refine Sq.mk ?_ | ((with_reducible show Ld1 ..); first | refine Ld1.h H ?_ | refine Ld1.rF ?_ | refine Ld1.r ?_) | ((with_reducible show Ld ..); first | refine Ld.h H ?_ | refine Ld.r ?_) | ((with_reducible show Ix ..); first | refine Ix.h ?_ | refine Ix.ha ?_) | (refine St.h H ?_; clear H; intro _ H)) | refine Sm.strix T.ok ?_)
    have hwa : IntKind.i64.wrap ((a : Int) + ((bs (rText l (rdAt l a).1)).size : Int)) = (((rdAt l a).2 : Nat) : Int) := w64 (by omega) (by omega) (by omega)
    have hbk := fun w => blanks_r l (rdAt l a).2 w g2 (by omega)
    simp only [← hwa] at hbk
    (((conv => whnf); refine Cl.mk (hbk _) ?_); rintro _ _ ⟨rfl, hx⟩; replace H := H.ext hx; clear hx)
    repeat' ((conv => whnf); first | (((with_reducible show Gd ..); first | (with_reducible first | refine Gd.t ?_ | refine Gd.f ?_ | (first | apply Gd.dec | apply Gd.beq | apply Gd.bne) <;> intro _ | refine Gd.not ?_) | refine Gd.t ?_ | refine Gd.f ?_ | apply Gd.var <;> intro _) <;> try (exfalso; omega)) | with_reducible refine Sq.mk ?_ | ((with_reducible show Ld1 ..); first | refine Ld1.h H ?_ | refine Ld1.rF ?_ | refine Ld1.r ?_) | ((with_reducible show Ld ..); first | refine Ld.h H ?_ | refine Ld.r ?_) | ((with_reducible show Ix ..); first | refine Ix.h ?_ | refine Ix.ha ?_) | (refine St.h H ?_; clear H; intro _ H))
    refine ⟨(n, (rdAt l a).2, A', c', m ++ [(rdAt l a).1]), ⟨rfl, rfl, at_val rfl (by rw [← hm1]), trivial⟩, rfl, ⟨g2, by simp only; omega, by simp only [List.length_append, List.length_cons, List.length_nil]; omega, ?_, H.d0⟩, Nat.lt_succ_self n⟩
    simp only [List.append_assoc, List.cons_append, List.nil_append]
    exact hw
  · have hk : rKind (rdAt l a).1 = k_bad := rk_bad.2 he
    rw [if_pos (.inl he)] at hw
    repeat' ((conv => whnf); first | ((with_reducible show Gd (bs _ == _) _ _); first | refine Gd.sY (by assumption) ?_ | refine Gd.sk (by assumption) ?_ | refine Gd.sN (by assumption) ?_) | ((conv => whnf); first | (((with_reducible show Gd ..); first | (with_reducible first | refine Gd.t ?_ | refine Gd.f ?_ | (first | apply Gd.dec | apply Gd.beq | apply Gd.bne) <;> intro _ | refine Gd.not ?_) | refine Gd.t ?_ | refine Gd.f ?_ | apply Gd.var <;> intro _) <;> try (exfalso; omega)) | with_reducible refine Sq.mk ?_ | ((with_reducible show Ld1 ..); first | refine Ld1.h H ?_ | refine Ld1.rF ?_ | refine Ld1.r ?_) | ((with_reducible show Ld ..); first | refine Ld.h H ?_ | refine Ld.r ?_) | ((with_reducible show Ix ..); first | refine Ix.h ?_ | refine Ix.ha ?_) | (refine St.h H ?_; clear H; intro _ H)) | refine Sm.strix T.ok ?_)
    rw [← hw]
    exact ⟨A', c', by rw [hm1]; rfl, H.d0⟩
end Go.Proofs.YtfnjodpehomgfaaGreatDoor
namespace Go.Proofs.YtfnjodpehomgfaaGreatDoor
open Go Go.Sh Go.Tx
attribute [local irreducible] Blk Ext RdS
def spE (s : RS) : Int := match s.sp with | none => 0 | some (e, _) => e
def spP (s : RS) : Nat := match s.sp with | none => 0 | some (_, p) => p
def qCs (ws : List Tk) (A : Option Addr) (cw k : Nat) (s : RS) : List Value := [.slice A ws.length cw, .int .i64 (k : Int), .int .i64 (spE s), .int .i64 (spP s : Int)]
def RdQ (ws : List Tk) (A : Option Addr) (cw pr : Nat) (s : RS) (w : World) : Prop := ∃ k, ws.drop k = s.ts ∧ (∀ e p, s.sp = some (e, p) → e ≠ 0) ∧ Blk w pr 54 (qCs ws A cw k s)
abbrev rq (ws : List Tk) (A : Option Addr) (cw pr : Nat) (s : RS) : Ck := ⟨(· = pr), RdQ ws A cw pr s, true, false⟩
theorem rq_ok {ws : List Tk} {A : Option Addr} {cw pr : Nat} {s : RS} {w : World} (h : RdQ ws A cw pr s w) : (rq ws A cw pr s).Ok w := by
  obtain ⟨k, h1, h2, h3⟩ := h
  exact ⟨⟨k, h1, h2, h3⟩, fun j hj => by subst hj; exact h3.lt, fun w' hs hb => ⟨k, h1, h2, (bk_ok h3).loc w' hs hb⟩⟩
structure RX (src : Bs) (ws : List Tk) (A : Option Addr) (cw pr : Nat) (wb : World) : Prop where
  lo : wb.heap.size ≤ pr
  rd : RdS (rwE src) 4 wb A ws
  len : ws.length ≤ 20000
  pls : Pls ws
theorem RX.ok {src : Bs} {ws : List Tk} {A : Option Addr} {cw pr : Nat} {wb w : World} (X : RX src ws A cw pr wb) (h : Ext wb w) : BaseOk (· = pr) wb w := ⟨h, fun k hk => by subst hk; exact X.lo⟩
theorem Hp.ofQ {S : Nat → Prop} {w0 w : World} {Γ Γ' : List Ck} {ws : List Tk} {A : Option Addr} {cw pr k : Nat} {s : RS} (H : Hp S w0 w Γ) (hb : Blk w pr 54 (qCs ws A cw k s))
    (u : Upd1 Γ (rq ws A cw pr s) (bk pr 54 (qCs ws A cw k s)) Γ' := by (repeat (first | exact Upd1.head | apply Upd1.tail))) : Hp S w0 w Γ' :=
  Hp.upd (c := rq ws A cw pr s) H (Hp.start (S := (· = pr)) (bk_ok hb) (fun k hk => hk)) rfl (.inl rfl) u
theorem Hp.toQ {S : Nat → Prop} {w0 w : World} {Γ Γ' : List Ck} {ws : List Tk} {A : Option Addr} {cw pr k : Nat} {s : RS} (H : Hp S w0 w Γ) (h1 : ws.drop k = s.ts) (h2 : ∀ e p, s.sp = some (e, p) → e ≠ 0)
    (u : Upd1 Γ (bk pr 54 (qCs ws A cw k s)) (rq ws A cw pr s) Γ' := by (repeat (first | exact Upd1.head | apply Upd1.tail))) : Hp S w0 w Γ' := by
  obtain ⟨L, R, hs, rfl⟩ := u.sp
  have hb : Blk w pr 54 (qCs ws A cw k s) := H.mem (c := bk pr 54 (qCs ws A cw k s)) (by rw [hs.eq]; simp)
  exact Hp.upd (c := bk pr 54 (qCs ws A cw k s)) H (Hp.start (S := (· = pr)) (rq_ok ⟨k, h1, h2, hb⟩) (fun k hk => hk)) rfl (.inl rfl) u
section
variable {src : Bs} {ws : List Tk} {A : Option Addr} {cw pr : Nat} {wb : World} (X : RX src ws A cw pr wb)
include X
theorem fine_r (s : RS) (w : World) (h : RdQ ws A cw pr s w) : Cl Tryz.prog 28 #[.pointer (some ⟨pr, 0, none⟩)] w (fun v w' => v = .bool s.sp.isNone ∧ Ext w w') (fun _ _ => False) := by
  obtain ⟨k, h1, h2, hb⟩ := h
  refine calls_ex (args := [.pointer (some ⟨pr, 0, none⟩)]) T.ok Tryz.func28 rfl rfl rfl rfl ?_
  have H := Hp.start (S := (· = pr)) (bk_ok hb) (fun k hk => hk)
  obtain ⟨ts, sp⟩ := s
  cases sp with
  | none =>
    repeat' ((conv => whnf); first | (((with_reducible show Gd ..); first | (with_reducible first | refine Gd.t ?_ | refine Gd.f ?_ | (first | apply Gd.dec | apply Gd.beq | apply Gd.bne) <;> intro _ | refine Gd.not ?_) | refine Gd.t ?_ | refine Gd.f ?_ | apply Gd.var <;> intro _) <;> try (exfalso; omega)) | with_reducible refine Sq.mk ?_ | ((with_reducible show Ld1 ..); first | refine Ld1.h H ?_ | refine Ld1.rF ?_ | refine Ld1.r ?_) | ((with_reducible show Ld ..); first | refine Ld.h H ?_ | refine Ld.r ?_) | ((with_reducible show Ix ..); first | refine Ix.h ?_ | refine Ix.ha ?_) | (refine Al.hp H ?_; clear H; intro _ _ H _) | (refine St.h H ?_; clear H; intro _ H))
    exact ⟨rfl, Ext.refl _⟩
  | some x =>
    obtain ⟨e, p⟩ := x
    have he := h2 e p rfl
    repeat' ((conv => whnf); first | (((with_reducible show Gd ..); first | (with_reducible first | refine Gd.t ?_ | refine Gd.f ?_ | (first | apply Gd.dec | apply Gd.beq | apply Gd.bne) <;> intro _ | refine Gd.not ?_) | refine Gd.t ?_ | refine Gd.f ?_ | apply Gd.var <;> intro _) <;> try (exfalso; omega)) | with_reducible refine Sq.mk ?_ | ((with_reducible show Ld1 ..); first | refine Ld1.h H ?_ | refine Ld1.rF ?_ | refine Ld1.r ?_) | ((with_reducible show Ld ..); first | refine Ld.h H ?_ | refine Ld.r ?_) | ((with_reducible show Ix ..); first | refine Ix.h ?_ | refine Ix.ha ?_) | (refine Al.hp H ?_; clear H; intro _ _ H _) | (refine St.h H ?_; clear H; intro _ H))
    refine ⟨b_eq ?_, Ext.refl _⟩
    show (e == 0) = false
    simpa using he
theorem next_r (s : RS) (w : World) (hwb : Ext wb w) (h : RdQ ws A cw pr s w) (hne : s.ts ≠ []) : Cl Tryz.prog 52 #[.pointer (some ⟨pr, 0, none⟩)] w (fun v w' => v = .agg (rwE src (curT s.ts)).toArray ∧ Ext w w') (fun _ _ => False) := by
  obtain ⟨k, h1, h2, hb0⟩ := h
  refine calls_ex (args := [.pointer (some ⟨pr, 0, none⟩)]) T.ok Tryz.func52 rfl rfl rfl rfl ?_
  have H := Hp.begin nw w
  have hk : k < ws.length := by
    apply Nat.lt_of_not_le
    intro hle
    exact hne (h1.symm.trans (List.drop_of_length_le hle))
  have hx : ws[k]? = some (curT s.ts) := by
    rw [← h1, List.drop_eq_getElem_cons hk, List.getElem?_eq_getElem hk]; rfl
  refine Sq.mk ?_
  ((conv => whnf); refine Al.hp H ?_; clear H; intro p2 _ H _)
  have hrd := RdS.from (Ext.trans hwb H.e) X.rd
  (conv => whnf)
  refine Sq.mk ?_
  (conv => whnf)
  refine Dr.tail T.ok mixed 10 (by kernel_rfl) (fun W wT hW eT _ => ?_)
  repeat' ((conv => whnf); first | ((conv => whnf); first | (((with_reducible show Gd ..); first | (with_reducible first | refine Gd.t ?_ | refine Gd.f ?_ | (first | apply Gd.dec | apply Gd.beq | apply Gd.bne) <;> intro _ | refine Gd.not ?_) | refine Gd.t ?_ | refine Gd.f ?_ | apply Gd.var <;> intro _) <;> try (exfalso; omega)) | ((with_reducible show QLd1 ..); first | refine QLd1.h hW H ?_ | refine QLd1.rF hW ?_ | refine QLd1.r hW ?_) | ((with_reducible show QLd ..); first | refine QLd.h hW H ?_ | refine QLd.r hW ?_) | ((with_reducible show Ix ..); first | refine Ix.h ?_ | refine Ix.ha ?_)) | ((with_reducible show QLd1 ..); refine QLd1.blk hW (Blk.from H.e hb0) rfl ?_) | ((with_reducible show QLd ..); refine QLd.blk hW (Blk.from H.e hb0) rfl ?_))
  replace H := H.ext eT
  clear hW eT
  repeat' ((conv => whnf); first | (((with_reducible show Gd ..); first | (with_reducible first | refine Gd.t ?_ | refine Gd.f ?_ | (first | apply Gd.dec | apply Gd.beq | apply Gd.bne) <;> intro _ | refine Gd.not ?_) | refine Gd.t ?_ | refine Gd.f ?_ | apply Gd.var <;> intro _) <;> try (exfalso; omega)) | with_reducible refine Sq.mk ?_ | ((with_reducible show Ld1 ..); first | refine Ld1.h H ?_ | refine Ld1.rF ?_ | refine Ld1.r ?_) | ((with_reducible show Ld ..); first | refine Ld.h H ?_ | refine Ld.r ?_) | ((with_reducible show Ix ..); first | refine Ix.h ?_ | refine Ix.ha ?_) | (refine Al.hp H ?_; clear H; intro _ _ H _) | (refine St.h H ?_; clear H; intro _ H))
  exact ⟨rfl, H.e⟩
theorem is_r (k : Bs) (s : RS) (w : World) (hwb : Ext wb w) (h : RdQ ws A cw pr s w) (hne : s.ts ≠ []) : Cl Tryz.prog 29 #[.pointer (some ⟨pr, 0, none⟩), .string (bs k)] w (fun v w' => v = .bool (isR k s) ∧ Ext w w') (fun _ _ => False) := by
  refine calls_ex (args := [.pointer (some ⟨pr, 0, none⟩), .string (bs k)]) T.ok Tryz.func29 rfl rfl rfl rfl ?_
  have H := Hp.begin nw w
  have hq : ∀ w', Ext w w' → RdQ ws A cw pr s w' := fun w' e => by
    obtain ⟨j, h1, h2, hb⟩ := h
    exact ⟨j, h1, h2, Blk.from e hb⟩
  repeat' ((conv => whnf); first | (((with_reducible show Gd ..); first | (with_reducible first | refine Gd.t ?_ | refine Gd.f ?_ | (first | apply Gd.dec | apply Gd.beq | apply Gd.bne) <;> intro _ | refine Gd.not ?_) | refine Gd.t ?_ | refine Gd.f ?_ | apply Gd.var <;> intro _) <;> try (exfalso; omega)) | with_reducible refine Sq.mk ?_ | ((with_reducible show Ld1 ..); first | refine Ld1.h H ?_ | refine Ld1.rF ?_ | refine Ld1.r ?_) | ((with_reducible show Ld ..); first | refine Ld.h H ?_ | refine Ld.r ?_) | ((with_reducible show Ix ..); first | refine Ix.h ?_ | refine Ix.ha ?_) | (refine Al.hp H ?_; clear H; intro _ _ H _) | (refine St.h H ?_; clear H; intro _ H))
  (((conv => whnf); refine Cl.mk (fine_r X s _ (hq _ H.e)) ?_); rintro _ _ ⟨rfl, hx⟩; replace H := H.ext hx; clear hx)
  cases hs : s.sp with
  | some x =>
    have hi : isR k s = false := by unfold isR; rw [hs]
    rw [hi]
    repeat' ((conv => whnf); first | (((with_reducible show Gd ..); first | (with_reducible first | refine Gd.t ?_ | refine Gd.f ?_ | (first | apply Gd.dec | apply Gd.beq | apply Gd.bne) <;> intro _ | refine Gd.not ?_) | refine Gd.t ?_ | refine Gd.f ?_ | apply Gd.var <;> intro _) <;> try (exfalso; omega)) | with_reducible refine Sq.mk ?_ | ((with_reducible show Ld1 ..); first | refine Ld1.h H ?_ | refine Ld1.rF ?_ | refine Ld1.r ?_) | ((with_reducible show Ld ..); first | refine Ld.h H ?_ | refine Ld.r ?_) | ((with_reducible show Ix ..); first | refine Ix.h ?_ | refine Ix.ha ?_) | (refine Al.hp H ?_; clear H; intro _ _ H _) | (refine St.h H ?_; clear H; intro _ H))
    exact ⟨rfl, H.e⟩
  | none =>
    have hi : isR k s = (rKind (curT s.ts) == k) := by unfold isR; rw [hs]
    rw [hi]
    repeat' ((conv => whnf); first | (((with_reducible show Gd ..); first | (with_reducible first | refine Gd.t ?_ | refine Gd.f ?_ | (first | apply Gd.dec | apply Gd.beq | apply Gd.bne) <;> intro _ | refine Gd.not ?_) | refine Gd.t ?_ | refine Gd.f ?_ | apply Gd.var <;> intro _) <;> try (exfalso; omega)) | with_reducible refine Sq.mk ?_ | ((with_reducible show Ld1 ..); first | refine Ld1.h H ?_ | refine Ld1.rF ?_ | refine Ld1.r ?_) | ((with_reducible show Ld ..); first | refine Ld.h H ?_ | refine Ld.r ?_) | ((with_reducible show Ix ..); first | refine Ix.h ?_ | refine Ix.ha ?_) | (refine Al.hp H ?_; clear H; intro _ _ H _) | (refine St.h H ?_; clear H; intro _ H))
    (((conv => whnf); refine Cl.mk (next_r X s _ (Ext.trans hwb H.e) (hq _ H.e) hne) ?_); rintro _ _ ⟨rfl, hx⟩; replace H := H.ext hx; clear hx)
    repeat' ((conv => whnf); first | (((with_reducible show Gd ..); first | (with_reducible first | refine Gd.t ?_ | refine Gd.f ?_ | (first | apply Gd.dec | apply Gd.beq | apply Gd.bne) <;> intro _ | refine Gd.not ?_) | refine Gd.t ?_ | refine Gd.f ?_ | apply Gd.var <;> intro _) <;> try (exfalso; omega)) | with_reducible refine Sq.mk ?_ | ((with_reducible show Ld1 ..); first | refine Ld1.h H ?_ | refine Ld1.rF ?_ | refine Ld1.r ?_) | ((with_reducible show Ld ..); first | refine Ld.h H ?_ | refine Ld.r ?_) | ((with_reducible show Ix ..); first | refine Ix.h ?_ | refine Ix.ha ?_) | (refine Al.hp H ?_; clear H; intro _ _ H _) | (refine St.h H ?_; clear H; intro _ H))
    refine ⟨b_eq ?_, H.e⟩
    rw [bs_eq, Bool.eq_iff_iff]
    simp
theorem wrong_r (e : Int) (s : RS) (w : World) (he : e ≠ 0) (hwb : Ext wb w) (h : RdQ ws A cw pr s w) (hne : s.ts ≠ []) : Cl Tryz.prog 82 #[.pointer (some ⟨pr, 0, none⟩), .int .i64 e] w (fun v w' => Hp (· = pr) w w' [rq ws A cw pr (wrongR e s)]) (fun _ _ => False) := by
  have HB := X.ok hwb
  refine calls_ex (args := [.pointer (some ⟨pr, 0, none⟩), .int .i64 e]) T.ok Tryz.func82 rfl rfl rfl rfl ?_
  obtain ⟨k, h1, h2, hb⟩ := h
  have H := Hp.start (S := (· = pr)) (bk_ok hb) (fun k hk => hk)
  obtain ⟨ts, sp⟩ := s
  cases sp with
  | some x =>
    obtain ⟨e0, p0⟩ := x
    have he0 := h2 e0 p0 rfl
    repeat' ((conv => whnf); first | (((with_reducible show Gd ..); first | (with_reducible first | refine Gd.t ?_ | refine Gd.f ?_ | (first | apply Gd.dec | apply Gd.beq | apply Gd.bne) <;> intro _ | refine Gd.not ?_) | refine Gd.t ?_ | refine Gd.f ?_ | apply Gd.var <;> intro _) <;> try (exfalso; omega)) | with_reducible refine Sq.mk ?_ | ((with_reducible show Ld1 ..); first | refine Ld1.h H ?_ | refine Ld1.rF ?_ | refine Ld1.r ?_) | ((with_reducible show Ld ..); first | refine Ld.h H ?_ | refine Ld.r ?_) | ((with_reducible show Ix ..); first | refine Ix.h ?_ | refine Ix.ha ?_) | (refine Al.hp H ?_; clear H; intro _ _ H _) | (refine St.h H ?_; clear H; intro _ H))
    · exact Hp.toQ H h1 h2
    · exfalso
      rename_i hx
      exact he0 hx
  | none =>
    have hq : ∀ w', Blk w' pr 54 (qCs ws A cw k ⟨ts, none⟩) → RdQ ws A cw pr ⟨ts, none⟩ w' := fun w' hb => ⟨k, h1, h2, hb⟩
    repeat' ((conv => whnf); first | (((with_reducible show Gd ..); first | (with_reducible first | refine Gd.t ?_ | refine Gd.f ?_ | (first | apply Gd.dec | apply Gd.beq | apply Gd.bne) <;> intro _ | refine Gd.not ?_) | refine Gd.t ?_ | refine Gd.f ?_ | apply Gd.var <;> intro _) <;> try (exfalso; omega)) | with_reducible refine Sq.mk ?_ | ((with_reducible show Ld1 ..); first | refine Ld1.h H ?_ | refine Ld1.rF ?_ | refine Ld1.r ?_) | ((with_reducible show Ld ..); first | refine Ld.h H ?_ | refine Ld.r ?_) | ((with_reducible show Ix ..); first | refine Ix.h ?_ | refine Ix.ha ?_) | (refine St.h H ?_; clear H; intro _ H))
    all_goals first | (exfalso; exact absurd (show spE (⟨ts, none⟩ : RS) = 0 from rfl) (by assumption)) | skip
    (((conv => whnf); refine Cl.mk (next_r X ⟨ts, none⟩ _ (H.base2 HB) (hq _ (H.blk 0 rfl)) hne) ?_); rintro _ _ ⟨rfl, hx⟩; replace H := H.ext hx; clear hx)
    ((conv => whnf); refine Al.hp H ?_; clear H; intro p4 _ H _)
    have hW : wrongR e ⟨ts, none⟩ = ⟨ts, some (wrongE e (curT ts))⟩ := rfl
    by_cases herr : (curT ts).err = 0
    · by_cases hlst : rKind (curT ts) = k_least
      · have hE : wrongE e (curT ts) = (143, (curT ts).at_) := by unfold wrongE; rw [if_neg (fun h => h herr), if_pos hlst]
        rw [hW, hE]
        repeat' ((conv => whnf); first | ((with_reducible show Gd (bs _ == _) _ _); first | refine Gd.sY (by assumption) ?_ | refine Gd.sk (by assumption) ?_ | refine Gd.sN (by assumption) ?_) | ((conv => whnf); first | (((with_reducible show Gd ..); first | (with_reducible first | refine Gd.t ?_ | refine Gd.f ?_ | (first | apply Gd.dec | apply Gd.beq | apply Gd.bne) <;> intro _ | refine Gd.not ?_) | refine Gd.t ?_ | refine Gd.f ?_ | apply Gd.var <;> intro _) <;> try (exfalso; omega)) | with_reducible refine Sq.mk ?_ | ((with_reducible show Ld1 ..); first | refine Ld1.h H ?_ | refine Ld1.rF ?_ | refine Ld1.r ?_) | ((with_reducible show Ld ..); first | refine Ld.h H ?_ | refine Ld.r ?_) | ((with_reducible show Ix ..); first | refine Ix.h ?_ | refine Ix.ha ?_) | (refine St.h H ?_; clear H; intro _ H)) | refine Sm.strix T.ok ?_)
        all_goals first | (exfalso; exact absurd herr (by assumption)) | skip
        exact Hp.toQ (s := ⟨ts, some (143, (curT ts).at_)⟩) H.d0 h1 (fun e p h => by simp only [Option.some.injEq, Prod.mk.injEq] at h; omega)
      · have hE : wrongE e (curT ts) = (e, (curT ts).at_) := by unfold wrongE; rw [if_neg (fun h => h herr), if_neg hlst]
        rw [hW, hE]
        repeat' ((conv => whnf); first | ((with_reducible show Gd (bs _ == _) _ _); first | refine Gd.sY (by assumption) ?_ | refine Gd.sk (by assumption) ?_ | refine Gd.sN (by assumption) ?_) | ((conv => whnf); first | (((with_reducible show Gd ..); first | (with_reducible first | refine Gd.t ?_ | refine Gd.f ?_ | (first | apply Gd.dec | apply Gd.beq | apply Gd.bne) <;> intro _ | refine Gd.not ?_) | refine Gd.t ?_ | refine Gd.f ?_ | apply Gd.var <;> intro _) <;> try (exfalso; omega)) | with_reducible refine Sq.mk ?_ | ((with_reducible show Ld1 ..); first | refine Ld1.h H ?_ | refine Ld1.rF ?_ | refine Ld1.r ?_) | ((with_reducible show Ld ..); first | refine Ld.h H ?_ | refine Ld.r ?_) | ((with_reducible show Ix ..); first | refine Ix.h ?_ | refine Ix.ha ?_) | (refine St.h H ?_; clear H; intro _ H)) | refine Sm.strix T.ok ?_)
        all_goals first | (exfalso; exact absurd herr (by assumption)) | skip
        exact Hp.toQ (s := ⟨ts, some (e, (curT ts).at_)⟩) H.d0 h1 (fun e' p h => by simp only [Option.some.injEq, Prod.mk.injEq] at h; omega)
    · have hE : wrongE e (curT ts) = ((curT ts).err, (curT ts).at_) := by unfold wrongE; rw [if_pos herr]
      rw [hW, hE]
      repeat' ((conv => whnf); first | ((with_reducible show Gd (bs _ == _) _ _); first | refine Gd.sY (by assumption) ?_ | refine Gd.sk (by assumption) ?_ | refine Gd.sN (by assumption) ?_) | ((conv => whnf); first | (((with_reducible show Gd ..); first | (with_reducible first | refine Gd.t ?_ | refine Gd.f ?_ | (first | apply Gd.dec | apply Gd.beq | apply Gd.bne) <;> intro _ | refine Gd.not ?_) | refine Gd.t ?_ | refine Gd.f ?_ | apply Gd.var <;> intro _) <;> try (exfalso; omega)) | with_reducible refine Sq.mk ?_ | ((with_reducible show Ld1 ..); first | refine Ld1.h H ?_ | refine Ld1.rF ?_ | refine Ld1.r ?_) | ((with_reducible show Ld ..); first | refine Ld.h H ?_ | refine Ld.r ?_) | ((with_reducible show Ix ..); first | refine Ix.h ?_ | refine Ix.ha ?_) | (refine St.h H ?_; clear H; intro _ H)) | refine Sm.strix T.ok ?_)
      all_goals first | (exfalso; exact absurd (by assumption) herr) | skip
      exact Hp.toQ (s := ⟨ts, some ((curT ts).err, (curT ts).at_)⟩) H.d0 h1 (fun e' p h => by simp only [Option.some.injEq, Prod.mk.injEq] at h; omega)
def noW : Value := .agg #[.string (bs []), .int .i64 0, .string (bs []), .int .i64 0]
def takeV (src k : Bs) (s : RS) : Value := match s.sp with
  | some _ => noW
  | none => if rKind (curT s.ts) = k then .agg (rwE src (curT s.ts)).toArray else noW
theorem take_r (k : Bs) (s : RS) (w : World) (hwb : Ext wb w) (h : RdQ ws A cw pr s w) (hne : s.ts ≠ []) : Cl Tryz.prog 53 #[.pointer (some ⟨pr, 0, none⟩), .string (bs k)] w (fun v w' => v = takeV src k s ∧ Hp (· = pr) w w' [rq ws A cw pr (takeR k s)]) (fun _ _ => False) := by
  have HB := X.ok hwb
  have hlen := X.len
  refine calls_ex (args := [.pointer (some ⟨pr, 0, none⟩), .string (bs k)]) T.ok Tryz.func53 rfl rfl rfl rfl ?_
  have H := Hp.start (S := (· = pr)) (rq_ok h) (fun k hk => hk)
  refine Sq.mk ?_
  ((conv => whnf); refine Al.hp H ?_; clear H; intro p4 _ H _)
  repeat' ((conv => whnf); first | (((with_reducible show Gd ..); first | (with_reducible first | refine Gd.t ?_ | refine Gd.f ?_ | (first | apply Gd.dec | apply Gd.beq | apply Gd.bne) <;> intro _ | refine Gd.not ?_) | refine Gd.t ?_ | refine Gd.f ?_ | apply Gd.var <;> intro _) <;> try (exfalso; omega)) | with_reducible refine Sq.mk ?_ | ((with_reducible show Ld1 ..); first | refine Ld1.h H ?_ | refine Ld1.rF ?_ | refine Ld1.r ?_) | ((with_reducible show Ld ..); first | refine Ld.h H ?_ | refine Ld.r ?_) | ((with_reducible show Ix ..); first | refine Ix.h ?_ | refine Ix.ha ?_) | (refine St.h H ?_; clear H; intro _ H))
  (((conv => whnf); refine Cl.mk (fine_r X s _ (H.atC 1 rfl)) ?_); rintro _ _ ⟨rfl, hx⟩; replace H := H.ext hx; clear hx)
  obtain ⟨ts, sp⟩ := s
  cases sp with
  | some x =>
    repeat' ((conv => whnf); first | (((with_reducible show Gd ..); first | (with_reducible first | refine Gd.t ?_ | refine Gd.f ?_ | (first | apply Gd.dec | apply Gd.beq | apply Gd.bne) <;> intro _ | refine Gd.not ?_) | refine Gd.t ?_ | refine Gd.f ?_ | apply Gd.var <;> intro _) <;> try (exfalso; omega)) | with_reducible refine Sq.mk ?_ | ((with_reducible show Ld1 ..); first | refine Ld1.h H ?_ | refine Ld1.rF ?_ | refine Ld1.r ?_) | ((with_reducible show Ld ..); first | refine Ld.h H ?_ | refine Ld.r ?_) | ((with_reducible show Ix ..); first | refine Ix.h ?_ | refine Ix.ha ?_) | (refine St.h H ?_; clear H; intro _ H))
    exact ⟨rfl, H.d0⟩
  | none =>
    repeat' ((conv => whnf); first | (((with_reducible show Gd ..); first | (with_reducible first | refine Gd.t ?_ | refine Gd.f ?_ | (first | apply Gd.dec | apply Gd.beq | apply Gd.bne) <;> intro _ | refine Gd.not ?_) | refine Gd.t ?_ | refine Gd.f ?_ | apply Gd.var <;> intro _) <;> try (exfalso; omega)) | with_reducible refine Sq.mk ?_ | ((with_reducible show Ld1 ..); first | refine Ld1.h H ?_ | refine Ld1.rF ?_ | refine Ld1.r ?_) | ((with_reducible show Ld ..); first | refine Ld.h H ?_ | refine Ld.r ?_) | ((with_reducible show Ix ..); first | refine Ix.h ?_ | refine Ix.ha ?_) | (refine St.h H ?_; clear H; intro _ H))
    (((conv => whnf); refine Cl.mk (next_r X ⟨ts, none⟩ _ (H.base2 HB) (H.atC 1 rfl) hne) ?_); rintro _ _ ⟨rfl, hx⟩; replace H := H.ext hx; clear hx)
    ((conv => whnf); refine Al.hp H ?_; clear H; intro p5 _ H _)
    by_cases hk : rKind (curT ts) = k
    · have hV : takeV src k ⟨ts, none⟩ = .agg (rwE src (curT ts)).toArray := by unfold takeV; simp only; rw [if_pos hk]
      have hR : takeR k ⟨ts, none⟩ = ⟨ts.tail, none⟩ := by unfold takeR; simp only; rw [if_pos hk]
      rw [hV, hR]
      obtain ⟨j, h1, h2, hb0⟩ := H.atC (c := rq ws A cw pr ⟨ts, none⟩) 2 rfl
      have hj : j < ws.length := by
        apply Nat.lt_of_not_le
        intro hle
        exact hne (h1.symm.trans (List.drop_of_length_le hle))
      replace H := Hp.ofQ H hb0
      clear hb0
      repeat' ((conv => whnf); first | ((with_reducible show Gd (bs _ == _) _ _); first | refine Gd.sY (by assumption) ?_ | refine Gd.sk (by assumption) ?_ | refine Gd.sN (by assumption) ?_) | ((conv => whnf); first | (((with_reducible show Gd ..); first | (with_reducible first | refine Gd.t ?_ | refine Gd.f ?_ | (first | apply Gd.dec | apply Gd.beq | apply Gd.bne) <;> intro _ | refine Gd.not ?_) | refine Gd.t ?_ | refine Gd.f ?_ | apply Gd.var <;> intro _) <;> try (exfalso; omega)) | with_reducible refine Sq.mk ?_ | ((with_reducible show Ld1 ..); first | refine Ld1.h H ?_ | refine Ld1.rF ?_ | refine Ld1.r ?_) | ((with_reducible show Ld ..); first | refine Ld.h H ?_ | refine Ld.r ?_) | ((with_reducible show Ix ..); first | refine Ix.h ?_ | refine Ix.ha ?_) | (refine St.h H ?_; clear H; intro _ H)) | refine Sm.strix T.ok ?_)
      refine ⟨rfl, ?_⟩
      have hw1 : IntKind.i64.wrap ((j : Int) + 1) = ((j + 1 : Nat) : Int) := w64 rfl (by omega) (by omega)
      rw [hw1] at H
      exact Hp.toQ (s := ⟨ts.tail, none⟩) (k := j + 1) H.d0.d0 (by rw [← List.tail_drop, h1]) (fun e p h => by cases h)
    · have hV : takeV src k ⟨ts, none⟩ = noW := by unfold takeV; simp only; rw [if_neg hk]
      have hR : takeR k ⟨ts, none⟩ = wrongR 141 ⟨ts, none⟩ := by unfold takeR; simp only; rw [if_neg hk]
      rw [hV, hR]
      repeat' ((conv => whnf); first | ((with_reducible show Gd (bs _ == _) _ _); first | refine Gd.sY (by assumption) ?_ | refine Gd.sk (by assumption) ?_ | refine Gd.sN (by assumption) ?_) | ((conv => whnf); first | (((with_reducible show Gd ..); first | (with_reducible first | refine Gd.t ?_ | refine Gd.f ?_ | (first | apply Gd.dec | apply Gd.beq | apply Gd.bne) <;> intro _ | refine Gd.not ?_) | refine Gd.t ?_ | refine Gd.f ?_ | apply Gd.var <;> intro _) <;> try (exfalso; omega)) | with_reducible refine Sq.mk ?_ | ((with_reducible show Ld1 ..); first | refine Ld1.h H ?_ | refine Ld1.rF ?_ | refine Ld1.r ?_) | ((with_reducible show Ld ..); first | refine Ld.h H ?_ | refine Ld.r ?_) | ((with_reducible show Ix ..); first | refine Ix.h ?_ | refine Ix.ha ?_) | (refine St.h H ?_; clear H; intro _ H)) | refine Sm.strix T.ok ?_)
      ((conv => whnf); refine Cl.mk (wrong_r X 141 ⟨ts, none⟩ _ (by decide) (H.base2 HB) (H.atC 2 rfl) hne) ?_)
      rintro _ w3 H'
      replace H := H.upd (c := rq ws A cw pr ⟨ts, none⟩) H' rfl (.inl rfl)
      clear H'
      repeat' ((conv => whnf); first | ((with_reducible show Gd (bs _ == _) _ _); first | refine Gd.sY (by assumption) ?_ | refine Gd.sk (by assumption) ?_ | refine Gd.sN (by assumption) ?_) | ((conv => whnf); first | (((with_reducible show Gd ..); first | (with_reducible first | refine Gd.t ?_ | refine Gd.f ?_ | (first | apply Gd.dec | apply Gd.beq | apply Gd.bne) <;> intro _ | refine Gd.not ?_) | refine Gd.t ?_ | refine Gd.f ?_ | apply Gd.var <;> intro _) <;> try (exfalso; omega)) | with_reducible refine Sq.mk ?_ | ((with_reducible show Ld1 ..); first | refine Ld1.h H ?_ | refine Ld1.rF ?_ | refine Ld1.r ?_) | ((with_reducible show Ld ..); first | refine Ld.h H ?_ | refine Ld.r ?_) | ((with_reducible show Ix ..); first | refine Ix.h ?_ | refine Ix.ha ?_) | (refine St.h H ?_; clear H; intro _ H)) | refine Sm.strix T.ok ?_)
      exact ⟨rfl, H.d0.d0⟩
theorem deeper_r (d : Nat) (s : RS) (w : World) (hd : d ≤ 1000000) (hwb : Ext wb w) (h : RdQ ws A cw pr s w) (hne : s.ts ≠ []) : Cl Tryz.prog 142 #[.pointer (some ⟨pr, 0, none⟩), .int .i64 (d : Int)] w (fun v w' => v = .bool (decide (d + 1 ≤ 40)) ∧ Hp (· = pr) w w' [rq ws A cw pr (if d + 1 ≤ 40 then s else wrongR 144 s)]) (fun _ _ => False) := by
  have HB := X.ok hwb
  refine calls_ex (args := [.pointer (some ⟨pr, 0, none⟩), .int .i64 (d : Int)]) T.ok Tryz.func142 rfl rfl rfl rfl ?_
  have H := Hp.start (S := (· = pr)) (rq_ok h) (fun k hk => hk)
  have hw1 : IntKind.i64.wrap ((d : Int) + 1) = ((d + 1 : Nat) : Int) := w64 rfl (by omega) (by omega)
  by_cases h40 : d + 1 ≤ 40
  · rw [if_pos h40]
    repeat' ((conv => whnf); first | ((with_reducible show Gd (bs _ == _) _ _); first | refine Gd.sY (by assumption) ?_ | refine Gd.sk (by assumption) ?_ | refine Gd.sN (by assumption) ?_) | ((conv => whnf); first | (((with_reducible show Gd ..); first | (with_reducible first | refine Gd.t ?_ | refine Gd.f ?_ | (first | apply Gd.dec | apply Gd.beq | apply Gd.bne) <;> intro _ | refine Gd.not ?_) | refine Gd.t ?_ | refine Gd.f ?_ | apply Gd.var <;> intro _) <;> try (exfalso; omega)) | with_reducible refine Sq.mk ?_ | ((with_reducible show Ld1 ..); first | refine Ld1.h H ?_ | refine Ld1.rF ?_ | refine Ld1.r ?_) | ((with_reducible show Ld ..); first | refine Ld.h H ?_ | refine Ld.r ?_) | ((with_reducible show Ix ..); first | refine Ix.h ?_ | refine Ix.ha ?_) | (refine St.h H ?_; clear H; intro _ H)) | refine Sm.strix T.ok ?_)
    all_goals first | (exfalso; omega) | skip
    exact ⟨b_eq (by simpa using h40), H⟩
  · rw [if_neg h40]
    repeat' ((conv => whnf); first | ((with_reducible show Gd (bs _ == _) _ _); first | refine Gd.sY (by assumption) ?_ | refine Gd.sk (by assumption) ?_ | refine Gd.sN (by assumption) ?_) | ((conv => whnf); first | (((with_reducible show Gd ..); first | (with_reducible first | refine Gd.t ?_ | refine Gd.f ?_ | (first | apply Gd.dec | apply Gd.beq | apply Gd.bne) <;> intro _ | refine Gd.not ?_) | refine Gd.t ?_ | refine Gd.f ?_ | apply Gd.var <;> intro _) <;> try (exfalso; omega)) | with_reducible refine Sq.mk ?_ | ((with_reducible show Ld1 ..); first | refine Ld1.h H ?_ | refine Ld1.rF ?_ | refine Ld1.r ?_) | ((with_reducible show Ld ..); first | refine Ld.h H ?_ | refine Ld.r ?_) | ((with_reducible show Ix ..); first | refine Ix.h ?_ | refine Ix.ha ?_) | (refine St.h H ?_; clear H; intro _ H)) | refine Sm.strix T.ok ?_)
    all_goals first | (exfalso; omega) | skip
    ((conv => whnf); refine Cl.mk (wrong_r X 144 s _ (by decide) (H.base2 HB) (H.atC 0 rfl) hne) ?_)
    rintro _ w3 H'
    replace H := H.upd (c := rq ws A cw pr s) H' rfl (.inl rfl)
    clear H'
    repeat' ((conv => whnf); first | ((with_reducible show Gd (bs _ == _) _ _); first | refine Gd.sY (by assumption) ?_ | refine Gd.sk (by assumption) ?_ | refine Gd.sN (by assumption) ?_) | ((conv => whnf); first | (((with_reducible show Gd ..); first | (with_reducible first | refine Gd.t ?_ | refine Gd.f ?_ | (first | apply Gd.dec | apply Gd.beq | apply Gd.bne) <;> intro _ | refine Gd.not ?_) | refine Gd.t ?_ | refine Gd.f ?_ | apply Gd.var <;> intro _) <;> try (exfalso; omega)) | with_reducible refine Sq.mk ?_ | ((with_reducible show Ld1 ..); first | refine Ld1.h H ?_ | refine Ld1.rF ?_ | refine Ld1.r ?_) | ((with_reducible show Ld ..); first | refine Ld.h H ?_ | refine Ld.r ?_) | ((with_reducible show Ix ..); first | refine Ix.h ?_ | refine Ix.ha ?_) | (refine St.h H ?_; clear H; intro _ H)) | refine Sm.strix T.ok ?_)
    exact ⟨b_eq (by simpa using h40), H⟩
end
end Go.Proofs.YtfnjodpehomgfaaGreatDoor
namespace Go.Proofs.YtfnjodpehomgfaaGreatDoor
open Go Go.Sh Go.Tx
attribute [local irreducible] Blk Ext RdS
theorem find_c (s : Bs) (w : World) (hT : Tb w) : Cl Tryz.prog 146 #[.string (bs s)] w (fun v w' => v = .int .i64 (findOp s) ∧ Ext w w') (fun _ _ => False) := by
  refine calls_ex (args := [.string (bs s)]) T.ok Tryz.func146 rfl rfl rfl rfl ?_
  have H := Hp.begin nw w
  repeat' ((conv => whnf); first | (((with_reducible show Gd ..); first | (with_reducible first | refine Gd.t ?_ | refine Gd.f ?_ | (first | apply Gd.dec | apply Gd.beq | apply Gd.bne) <;> intro _ | refine Gd.not ?_) | refine Gd.t ?_ | refine Gd.f ?_ | apply Gd.var <;> intro _) <;> try (exfalso; omega)) | with_reducible refine Sq.mk ?_ | ((with_reducible show Ld1 ..); first | refine Ld1.h H ?_ | refine Ld1.rF ?_ | refine Ld1.r ?_) | ((with_reducible show Ld ..); first | refine Ld.h H ?_ | refine Ld.r ?_) | ((with_reducible show Ix ..); first | refine Ix.h ?_ | refine Ix.ha ?_) | (refine Al.hp H ?_; clear H; intro _ _ H _) | (refine St.h H ?_; clear H; intro _ H))
  (conv => whnf)
  refine Ld.all hT.nm ?_
  repeat' ((conv => whnf); first | (((with_reducible show Gd ..); first | (with_reducible first | refine Gd.t ?_ | refine Gd.f ?_ | (first | apply Gd.dec | apply Gd.beq | apply Gd.bne) <;> intro _ | refine Gd.not ?_) | refine Gd.t ?_ | refine Gd.f ?_ | apply Gd.var <;> intro _) <;> try (exfalso; omega)) | with_reducible refine Sq.mk ?_ | ((with_reducible show Ld1 ..); first | refine Ld1.h H ?_ | refine Ld1.rF ?_ | refine Ld1.r ?_) | ((with_reducible show Ld ..); first | refine Ld.h H ?_ | refine Ld.r ?_) | ((with_reducible show Ix ..); first | refine Ix.h ?_ | refine Ix.ha ?_) | (refine Al.hp H ?_; clear H; intro _ _ H _) | (refine St.h H ?_; clear H; intro _ H))
  refine Lp.g0 T.ok (σ := Nat) (fun i => [(6, .int .i64 (i : Int)), (5, .agg (opNames.map fun b => Value.string (bs b)).toArray), (0, .string (bs s))])
    (fun i w' => i ≤ 16 ∧ findAux s (opNames.drop i) i = findOp s ∧ Hp nw w w' []) (fun i _ => 16 - i) 0 rfl ⟨rfl, rfl, rfl, trivial⟩ ⟨Nat.zero_le _, rfl, H⟩ ?_
  clear H
  rintro i w5 ⟨hi, hc, H⟩
  by_cases hlt : i < 16
  · obtain ⟨x, hx⟩ : ∃ x, opNames[i]? = some x := ⟨_, List.getElem?_eq_getElem (show i < opNames.length from hlt)⟩
    obtain ⟨hx1, hx2⟩ := List.getElem?_eq_some_iff.1 hx
    rw [List.drop_eq_getElem_cons hx1, hx2] at hc
    simp only [findAux] at hc
    repeat' ((conv => whnf); first | (((with_reducible show Gd ..); first | (with_reducible first | refine Gd.t ?_ | refine Gd.f ?_ | (first | apply Gd.dec | apply Gd.beq | apply Gd.bne) <;> intro _ | refine Gd.not ?_) | refine Gd.t ?_ | refine Gd.f ?_ | apply Gd.var <;> intro _) <;> try (exfalso; omega)) | with_reducible refine Sq.mk ?_ | ((with_reducible show Ld1 ..); first | refine Ld1.h H ?_ | refine Ld1.rF ?_ | refine Ld1.r ?_) | ((with_reducible show Ld ..); first | refine Ld.h H ?_ | refine Ld.r ?_) | ((with_reducible show Ix ..); first | refine Ix.h ?_ | refine Ix.ha ?_) | (refine Al.hp H ?_; clear H; intro _ _ H _) | (refine St.h H ?_; clear H; intro _ H))
    refine Sm.arrix T.ok (v := .string (bs x)) (by simp [hx]) hlt ?_
    repeat' ((conv => whnf); first | (((with_reducible show Gd ..); first | (with_reducible first | refine Gd.t ?_ | refine Gd.f ?_ | (first | apply Gd.dec | apply Gd.beq | apply Gd.bne) <;> intro _ | refine Gd.not ?_) | refine Gd.t ?_ | refine Gd.f ?_ | apply Gd.var <;> intro _) <;> try (exfalso; omega)) | with_reducible refine Sq.mk ?_ | ((with_reducible show Ld1 ..); first | refine Ld1.h H ?_ | refine Ld1.rF ?_ | refine Ld1.r ?_) | ((with_reducible show Ld ..); first | refine Ld.h H ?_ | refine Ld.r ?_) | ((with_reducible show Ix ..); first | refine Ix.h ?_ | refine Ix.ha ?_) | (refine Al.hp H ?_; clear H; intro _ _ H _) | (refine St.h H ?_; clear H; intro _ H))
    · have hb : (bs x == bs s) = true := by assumption
      rw [bs_eq] at hb
      rw [if_pos (of_decide_eq_true hb)] at hc
      exact ⟨by rw [← hc]; rfl, H.e⟩
    · have hb : (bs x == bs s) = false := by assumption
      rw [bs_eq] at hb
      rw [if_neg (of_decide_eq_false hb)] at hc
      exact ⟨i + 1, ⟨at_int (m := ((i + 1 : Nat) : Int)) rfl (w64 (by simp) (by omega) (by omega)), rfl, rfl, trivial⟩, rfl, ⟨by omega, hc, H⟩, by omega⟩
  · have hi : i = 16 := by omega
    subst hi
    repeat' ((conv => whnf); first | (((with_reducible show Gd ..); first | (with_reducible first | refine Gd.t ?_ | refine Gd.f ?_ | (first | apply Gd.dec | apply Gd.beq | apply Gd.bne) <;> intro _ | refine Gd.not ?_) | refine Gd.t ?_ | refine Gd.f ?_ | apply Gd.var <;> intro _) <;> try (exfalso; omega)) | with_reducible refine Sq.mk ?_ | ((with_reducible show Ld1 ..); first | refine Ld1.h H ?_ | refine Ld1.rF ?_ | refine Ld1.r ?_) | ((with_reducible show Ld ..); first | refine Ld.h H ?_ | refine Ld.r ?_) | ((with_reducible show Ix ..); first | refine Ix.h ?_ | refine Ix.ha ?_) | (refine Al.hp H ?_; clear H; intro _ _ H _) | (refine St.h H ?_; clear H; intro _ H))
    exact ⟨by rw [← hc]; rfl, H.e⟩
theorem stands_c (level : Nat) (src : Bs) (pr : Nat) (ts : List Tk) (w : World) (hT : Tb w) (hlv : level < 8) (h : Rdr src pr ts w) :
    Cl Tryz.prog 131 #[.pointer (some ⟨pr, 0, none⟩), .int .i64 (level : Int)] w (fun v w' => v = .bool (standsB level (curK ts)) ∧ Ext w w') (fun _ _ => False) := by
  obtain ⟨nx, t, r, rfl, hnx, hr, hb⟩ := h
  obtain ⟨As, hAl, hR, hE⟩ := hT.lv
  obtain ⟨⟨A, ca⟩, hA⟩ : ∃ x, As[level]? = some x := ⟨_, List.getElem?_eq_getElem (by omega)⟩
  obtain ⟨lv, hl⟩ : ∃ x, levels[level]? = some x := ⟨_, List.getElem?_eq_getElem (show level < levels.length from hlv)⟩
  have hz : (As.zip levels)[level]? = some ((A, ca), lv) := by rw [List.getElem?_zip_eq_some]; exact ⟨hA, hl⟩
  have hm : ((As.zip levels).map fun x => (x.1.1, x.2.length, x.1.2))[level]? = some (A, lv.length, ca) := by rw [List.getElem?_map, hz]; rfl
  have hzl : ((As.zip levels).map fun x => (x.1.1, x.2.length, x.1.2)).length = 8 := by
    rw [List.length_map, List.length_zip, hAl]; rfl
  have hll : level < ((As.zip levels).map fun x => (x.1.1, x.2.length, x.1.2)).length := by omega
  have hE1 := hE _ (List.mem_of_getElem? hz)
  simp only at hE1
  have hst : standsB level (curK (t :: r)) = lv.contains t.kind := by unfold standsB; rw [hl]; rfl
  rw [hst]
  have hlv4 : lv.length ≤ 4 := by
    have : ∀ l ∈ levels, l.length ≤ 4 := by decide
    exact this lv (List.mem_of_getElem? hl)
  refine calls_ex (args := [.pointer (some ⟨pr, 0, none⟩), .int .i64 (level : Int)]) T.ok Tryz.func131 rfl rfl rfl rfl ?_
  have H := Hp.start (S := (· = pr)) (bk_ok hb) (fun k hk => hk)
  have H0 := (Hp.begin nw w).e
  repeat' ((conv => whnf); first | ((with_reducible show Gd (bs _ == _) _ _); first | refine Gd.sY (by assumption) ?_ | refine Gd.sk (by assumption) ?_ | refine Gd.sN (by assumption) ?_) | ((conv => whnf); first | (((with_reducible show Gd ..); first | (with_reducible first | refine Gd.t ?_ | refine Gd.f ?_ | (first | apply Gd.dec | apply Gd.beq | apply Gd.bne) <;> intro _ | refine Gd.not ?_) | refine Gd.t ?_ | refine Gd.f ?_ | apply Gd.var <;> intro _) <;> try (exfalso; omega)) | with_reducible refine Sq.mk ?_ | ((with_reducible show Ld1 ..); first | refine Ld1.h H ?_ | refine Ld1.rF ?_ | refine Ld1.r ?_) | ((with_reducible show Ld ..); first | refine Ld.h H ?_ | refine Ld.r ?_) | ((with_reducible show Ix ..); first | refine Ix.h ?_ | refine Ix.ha ?_) | (refine Al.hp H ?_; clear H; intro _ _ H _) | (refine St.h H ?_; clear H; intro _ H)) | refine Sm.strix T.ok ?_)
  refine Lp.g0 T.ok (σ := Nat) (fun i => [(11, .int .i64 (i : Int)), (10, .int .i64 (lv.length : Int)), (9, .slice A lv.length ca), (0, .pointer (some ⟨pr, 0, none⟩))])
    (fun i w' => i ≤ lv.length ∧ (lv.take i).contains t.kind = false ∧ w' = w) (fun i _ => lv.length - i) 0 rfl ⟨rfl, rfl, rfl, rfl, trivial⟩ ⟨Nat.zero_le _, rfl, rfl⟩ ?_
  rintro i _ ⟨hi, hc, rfl⟩
  by_cases hlt : i < lv.length
  · obtain ⟨x, hx⟩ : ∃ x, lv[i]? = some x := ⟨_, List.getElem?_eq_getElem hlt⟩
    have hst := contains_step (s := t.kind) hx
    repeat' ((conv => whnf); first | ((with_reducible show Gd (bs _ == _) _ _); first | refine Gd.sY (by assumption) ?_ | refine Gd.sk (by assumption) ?_ | refine Gd.sN (by assumption) ?_) | ((conv => whnf); first | (((with_reducible show Gd ..); first | (with_reducible first | refine Gd.t ?_ | refine Gd.f ?_ | (first | apply Gd.dec | apply Gd.beq | apply Gd.bne) <;> intro _ | refine Gd.not ?_) | refine Gd.t ?_ | refine Gd.f ?_ | apply Gd.var <;> intro _) <;> try (exfalso; omega)) | with_reducible refine Sq.mk ?_ | ((with_reducible show Ld1 ..); first | refine Ld1.h H ?_ | refine Ld1.rF ?_ | refine Ld1.r ?_) | ((with_reducible show Ld ..); first | refine Ld.h H ?_ | refine Ld.r ?_) | ((with_reducible show Ix ..); first | refine Ix.h ?_ | refine Ix.ha ?_) | (refine Al.hp H ?_; clear H; intro _ _ H _) | (refine St.h H ?_; clear H; intro _ H)) | refine Sm.strix T.ok ?_)
    · have hb : (bs t.kind == bs x) = true := by assumption
      rw [bs_eq] at hb
      refine ⟨b_eq ?_, H0⟩
      have hm : t.kind ∈ lv := by rw [of_decide_eq_true hb]; exact List.mem_of_getElem? hx
      exact (List.contains_iff_mem.2 hm).symm
    · have hb : (bs t.kind == bs x) = false := by assumption
      rw [bs_eq] at hb
      refine ⟨i + 1, ⟨at_int (m := ((i + 1 : Nat) : Int)) rfl (w64 (by simp) (by omega) (by omega)), rfl, rfl, rfl, trivial⟩, rfl, ⟨by omega, ?_, rfl⟩, by omega⟩
      rw [hst, hc, Bool.false_or]
      exact beq_eq_false_iff_ne.2 fun e => of_decide_eq_false hb e.symm
  · rw [List.take_of_length_le (by omega)] at hc
    repeat' ((conv => whnf); first | ((with_reducible show Gd (bs _ == _) _ _); first | refine Gd.sY (by assumption) ?_ | refine Gd.sk (by assumption) ?_ | refine Gd.sN (by assumption) ?_) | ((conv => whnf); first | (((with_reducible show Gd ..); first | (with_reducible first | refine Gd.t ?_ | refine Gd.f ?_ | (first | apply Gd.dec | apply Gd.beq | apply Gd.bne) <;> intro _ | refine Gd.not ?_) | refine Gd.t ?_ | refine Gd.f ?_ | apply Gd.var <;> intro _) <;> try (exfalso; omega)) | with_reducible refine Sq.mk ?_ | ((with_reducible show Ld1 ..); first | refine Ld1.h H ?_ | refine Ld1.rF ?_ | refine Ld1.r ?_) | ((with_reducible show Ld ..); first | refine Ld.h H ?_ | refine Ld.r ?_) | ((with_reducible show Ix ..); first | refine Ix.h ?_ | refine Ix.ha ?_) | (refine Al.hp H ?_; clear H; intro _ _ H _) | (refine St.h H ?_; clear H; intro _ H)) | refine Sm.strix T.ok ?_)
    exact ⟨b_eq hc.symm, H0⟩
theorem et_v {v : Value} {kd o n : Int} {nm cb : Bs} {A : Option Addr} {c : Nat} {l : List ET} (h : v = .agg #[.int .i64 kd, .int .i64 o, .int .i64 n, .string (bs nm), .string (bs cb), .slice A l.length c]) : v = ET.v (.mk kd o n nm cb A c l) := h
theorem join_c (s : Bs) (x y : ET) (w : World) (hT : Tb w) :
    Cl Tryz.prog 132 #[.string (bs s), x.v, y.v] w (fun v w' => ∃ kd o A c, v = ET.v (.mk kd o 0 [] [] A c [x, y]) ∧ joinP s x.e y.e = ET.e (.mk kd o 0 [] [] A c [x, y]) ∧ Hp nw w w' [qu ET.enc 6 74 A c [x, y]]) (fun _ _ => False) := by
  obtain ⟨k1, o1, n1, a1, b1, A1, c1, l1⟩ := x
  obtain ⟨k2, o2, n2, a2, b2, A2, c2, l2⟩ := y
  generalize hx : ET.mk k1 o1 n1 a1 b1 A1 c1 l1 = x
  generalize hy : ET.mk k2 o2 n2 a2 b2 A2 c2 l2 = y
  have hvx : x.v = .agg #[.int .i64 k1, .int .i64 o1, .int .i64 n1, .string (bs a1), .string (bs b1), .slice A1 l1.length c1] := by rw [← hx]; rfl
  have hvy : y.v = .agg #[.int .i64 k2, .int .i64 o2, .int .i64 n2, .string (bs a2), .string (bs b2), .slice A2 l2.length c2] := by rw [← hy]; rfl
  rw [hvx, hvy]
  refine calls_ex (args := [.string (bs s), .agg #[.int .i64 k1, .int .i64 o1, .int .i64 n1, .string (bs a1), .string (bs b1), .slice A1 l1.length c1], .agg #[.int .i64 k2, .int .i64 o2, .int .i64 n2, .string (bs a2), .string (bs b2), .slice A2 l2.length c2]]) T.ok Tryz.func132 rfl rfl rfl rfl ?_
  have H := Hp.begin nw w
  refine Sq.mk ?_
  ((conv => whnf); refine Al.hp H ?_; clear H; intro p4 _ H _)
  ((conv => whnf); refine Al.hp H ?_; clear H; intro p5 _ H _)
  repeat' ((conv => whnf); first | (((with_reducible show Gd ..); first | (with_reducible first | refine Gd.t ?_ | refine Gd.f ?_ | (first | apply Gd.dec | apply Gd.beq | apply Gd.bne) <;> intro _ | refine Gd.not ?_) | refine Gd.t ?_ | refine Gd.f ?_ | apply Gd.var <;> intro _) <;> try (exfalso; omega)) | with_reducible refine Sq.mk ?_ | ((with_reducible show Ld1 ..); first | refine Ld1.h H ?_ | refine Ld1.rF ?_ | refine Ld1.r ?_) | ((with_reducible show Ld ..); first | refine Ld.h H ?_ | refine Ld.r ?_) | ((with_reducible show Ix ..); first | refine Ix.h ?_ | refine Ix.ha ?_) | (refine St.h H ?_; clear H; intro _ H))
  ((conv => whnf); refine Al.hp H ?_; clear H; intro p6 _ H _)
  repeat' ((conv => whnf); first | (((with_reducible show Gd ..); first | (with_reducible first | refine Gd.t ?_ | refine Gd.f ?_ | (first | apply Gd.dec | apply Gd.beq | apply Gd.bne) <;> intro _ | refine Gd.not ?_) | refine Gd.t ?_ | refine Gd.f ?_ | apply Gd.var <;> intro _) <;> try (exfalso; omega)) | with_reducible refine Sq.mk ?_ | ((with_reducible show Ld1 ..); first | refine Ld1.h H ?_ | refine Ld1.rF ?_ | refine Ld1.r ?_) | ((with_reducible show Ld ..); first | refine Ld.h H ?_ | refine Ld.r ?_) | ((with_reducible show Ix ..); first | refine Ix.h ?_ | refine Ix.ha ?_) | (refine Al.hp H ?_; clear H; intro _ _ H _) | (refine St.h H ?_; clear H; intro _ H))
  (conv => whnf)
  refine Sm.lith (cs := [.int .i64 k1, .int .i64 o1, .int .i64 n1, .string (bs a1), .string (bs b1), .slice A1 l1.length c1, .int .i64 k2, .int .i64 o2, .int .i64 n2, .string (bs a2), .string (bs b2), .slice A2 l2.length c2]) H T.ok (fun p1 w1 H _ => ?_)
  have hfix : ∀ w', Hp nw w w' [bk p1 74 [.int .i64 k1, .int .i64 o1, .int .i64 n1, .string (bs a1), .string (bs b1), .slice A1 l1.length c1, .int .i64 k2, .int .i64 o2, .int .i64 n2, .string (bs a2), .string (bs b2), .slice A2 l2.length c2]] → Hp nw w w' [qu ET.enc 6 74 (some ⟨p1, 0, none⟩) 2 [x, y]] := fun w' H => by
    have H1 : Hp nw w w' [bk p1 74 ([x, y].flatMap ET.enc)] := by rw [← hx, ← hy]; exact H
    exact Hp.bq (sz := 6) H1 (fun z _ => ET.enc_len z)
  by_cases h1 : s = s_andd
  · repeat' ((conv => whnf); first | ((with_reducible show Gd (bs _ == _) _ _); first | refine Gd.sY (by assumption) ?_ | refine Gd.sk (by assumption) ?_ | refine Gd.sN (by assumption) ?_) | ((conv => whnf); first | (((with_reducible show Gd ..); first | (with_reducible first | refine Gd.t ?_ | refine Gd.f ?_ | (first | apply Gd.dec | apply Gd.beq | apply Gd.bne) <;> intro _ | refine Gd.not ?_) | refine Gd.t ?_ | refine Gd.f ?_ | apply Gd.var <;> intro _) <;> try (exfalso; omega)) | with_reducible refine Sq.mk ?_ | ((with_reducible show Ld1 ..); first | refine Ld1.h H ?_ | refine Ld1.rF ?_ | refine Ld1.r ?_) | ((with_reducible show Ld ..); first | refine Ld.h H ?_ | refine Ld.r ?_) | ((with_reducible show Ix ..); first | refine Ix.h ?_ | refine Ix.ha ?_) | (refine Al.hp H ?_; clear H; intro _ _ H _) | (refine St.h H ?_; clear H; intro _ H)) | refine Sm.strix T.ok ?_)
    refine ⟨8, 0, some ⟨p1, 0, none⟩, 2, et_v rfl, ?_, hfix _ (H.sel [0] rfl)⟩
    unfold joinP; rw [if_pos h1]; rfl
  · by_cases h2 : s = s_orr
    · repeat' ((conv => whnf); first | ((with_reducible show Gd (bs _ == _) _ _); first | refine Gd.sY (by assumption) ?_ | refine Gd.sk (by assumption) ?_ | refine Gd.sN (by assumption) ?_) | ((conv => whnf); first | (((with_reducible show Gd ..); first | (with_reducible first | refine Gd.t ?_ | refine Gd.f ?_ | (first | apply Gd.dec | apply Gd.beq | apply Gd.bne) <;> intro _ | refine Gd.not ?_) | refine Gd.t ?_ | refine Gd.f ?_ | apply Gd.var <;> intro _) <;> try (exfalso; omega)) | with_reducible refine Sq.mk ?_ | ((with_reducible show Ld1 ..); first | refine Ld1.h H ?_ | refine Ld1.rF ?_ | refine Ld1.r ?_) | ((with_reducible show Ld ..); first | refine Ld.h H ?_ | refine Ld.r ?_) | ((with_reducible show Ix ..); first | refine Ix.h ?_ | refine Ix.ha ?_) | (refine Al.hp H ?_; clear H; intro _ _ H _) | (refine St.h H ?_; clear H; intro _ H)) | refine Sm.strix T.ok ?_)
      refine ⟨9, 0, some ⟨p1, 0, none⟩, 2, et_v rfl, ?_, hfix _ (H.sel [0] rfl)⟩
      unfold joinP; rw [if_neg h1, if_pos h2]; rfl
    · repeat' (first | ((conv => whnf); first | ((with_reducible show Gd (bs _ == _) _ _); first | refine Gd.sY (by assumption) ?_ | refine Gd.sk (by assumption) ?_ | refine Gd.sN (by assumption) ?_) | ((conv => whnf); first | (((with_reducible show Gd ..); first | (with_reducible first | refine Gd.t ?_ | refine Gd.f ?_ | (first | apply Gd.dec | apply Gd.beq | apply Gd.bne) <;> intro _ | refine Gd.not ?_) | refine Gd.t ?_ | refine Gd.f ?_ | apply Gd.var <;> intro _) <;> try (exfalso; omega)) | with_reducible refine Sq.mk ?_ | ((with_reducible show Ld1 ..); first | refine Ld1.h H ?_ | refine Ld1.rF ?_ | refine Ld1.r ?_) | ((with_reducible show Ld ..); first | refine Ld.h H ?_ | refine Ld.r ?_) | ((with_reducible show Ix ..); first | refine Ix.h ?_ | refine Ix.ha ?_) | (refine Al.hp H ?_; clear H; intro _ _ H _) | (refine St.h H ?_; clear H; intro _ H)) | refine Sm.strix T.ok ?_) | (((conv => whnf); refine Cl.mk (find_c s _ (hT.ext H.e)) ?_); rintro _ _ ⟨rfl, hx⟩; replace H := H.ext hx; clear hx))
      refine ⟨4, findOp s, some ⟨p1, 0, none⟩, 2, et_v rfl, ?_, hfix _ (H.sel [0] rfl)⟩
      unfold joinP; rw [if_neg h1, if_neg h2]; rfl
end Go.Proofs.YtfnjodpehomgfaaGreatDoor
namespace Go.Proofs.YtfnjodpehomgfaaGreatDoor
open Go Go.Sh Go.Tx
attribute [local irreducible] Blk Ext RdS
def levelN (k : Bs) : Nat := if k = s_orr then 1 else if k = s_andd then 2 else if k = s_eqq then 3 else if k = s_neq then 3 else if k = s_lt then 3 else if k = s_le then 3 else if k = s_bar then 4 else if k = s_xor then 4 else if k = s_amp then 5
  else if k = s_shl then 6 else if k = s_shr then 6 else if k = s_plus then 7 else if k = s_minus then 7 else if k = s_star then 8 else if k = s_slash then 8 else if k = s_pct then 8 else 0
def binL : List Bs := [s_orr, s_andd, s_eqq, s_neq, s_lt, s_le, s_bar, s_xor, s_amp, s_shl, s_shr, s_plus, s_minus, s_star, s_slash, s_pct]
theorem level_no {k : Bs} (h : k ∉ binL) : levelN k = 0 := by
  simp only [binL, List.mem_cons, List.not_mem_nil, or_false, not_or] at h
  obtain ⟨h1, h2, h3, h4, h5, h6, h7, h8, h9, h10, h11, h12, h13, h14, h15, h16⟩ := h
  unfold levelN
  rw [if_neg h1, if_neg h2, if_neg h3, if_neg h4, if_neg h5, if_neg h6, if_neg h7, if_neg h8, if_neg h9, if_neg h10, if_neg h11, if_neg h12, if_neg h13, if_neg h14, if_neg h15, if_neg h16]
theorem stands_level {lv : Nat} (hl : lv < 8) (k : Bs) : standsB lv k = decide (levelN k = lv + 1) := by
  by_cases h : k ∈ binL
  · have h1 : ∀ k ∈ binL, ∀ lv < 8, standsB lv k = decide (levelN k = lv + 1) := by decide
    exact h1 k h lv hl
  · rw [level_no h]
    have h2 : ∀ lv < 8, ∀ t ∈ (levels[lv]?.getD []), t ∈ binL := by decide
    rw [show decide (0 = lv + 1) = false from decide_eq_false (by omega)]
    unfold standsB
    rw [Bool.eq_false_iff]
    intro hc
    exact h (h2 lv hl k (List.contains_iff_mem.1 hc))
set_option maxHeartbeats 4000000 in
theorem Level_r (k : Bs) (w : World) : Cl Tryz.prog 127 #[.string (bs k)] w (fun v w' => v = .int .i64 (levelN k : Int) ∧ Ext w w') (fun _ _ => False) := by
  refine calls_ex (args := [.string (bs k)]) T.ok Tryz.func127 rfl rfl rfl rfl ?_
  have H := Hp.begin nw w
  by_cases h : k ∈ binL
  · simp only [binL, List.mem_cons, List.not_mem_nil, or_false] at h
    rcases h with rfl | rfl | rfl | rfl | rfl | rfl | rfl | rfl | rfl | rfl | rfl | rfl | rfl | rfl | rfl | rfl
    all_goals (repeat' ((conv => whnf); first | (((with_reducible show Gd ..); first | (with_reducible first | refine Gd.t ?_ | refine Gd.f ?_ | (first | apply Gd.dec | apply Gd.beq | apply Gd.bne) <;> intro _ | refine Gd.not ?_) | refine Gd.t ?_ | refine Gd.f ?_ | apply Gd.var <;> intro _) <;> try (exfalso; omega)) | with_reducible refine Sq.mk ?_ | ((with_reducible show Ld1 ..); first | refine Ld1.h H ?_ | refine Ld1.rF ?_ | refine Ld1.r ?_) | ((with_reducible show Ld ..); first | refine Ld.h H ?_ | refine Ld.r ?_) | ((with_reducible show Ix ..); first | refine Ix.h ?_ | refine Ix.ha ?_) | (refine Al.hp H ?_; clear H; intro _ _ H _) | (refine St.h H ?_; clear H; intro _ H)))
    all_goals exact ⟨rfl, H.e⟩
  · rw [level_no h]
    simp only [binL, List.mem_cons, List.not_mem_nil, or_false, not_or] at h
    obtain ⟨h1, h2, h3, h4, h5, h6, h7, h8, h9, h10, h11, h12, h13, h14, h15, h16⟩ := h
    repeat' ((conv => whnf); first | ((with_reducible show Gd (bs _ == _) _ _); first | refine Gd.sY (by assumption) ?_ | refine Gd.sk (by assumption) ?_ | refine Gd.sN (by assumption) ?_) | ((conv => whnf); first | (((with_reducible show Gd ..); first | (with_reducible first | refine Gd.t ?_ | refine Gd.f ?_ | (first | apply Gd.dec | apply Gd.beq | apply Gd.bne) <;> intro _ | refine Gd.not ?_) | refine Gd.t ?_ | refine Gd.f ?_ | apply Gd.var <;> intro _) <;> try (exfalso; omega)) | with_reducible refine Sq.mk ?_ | ((with_reducible show Ld1 ..); first | refine Ld1.h H ?_ | refine Ld1.rF ?_ | refine Ld1.r ?_) | ((with_reducible show Ld ..); first | refine Ld.h H ?_ | refine Ld.r ?_) | ((with_reducible show Ix ..); first | refine Ix.h ?_ | refine Ix.ha ?_) | (refine Al.hp H ?_; clear H; intro _ _ H _) | (refine St.h H ?_; clear H; intro _ H)) | refine Sm.strix T.ok ?_)
    exact ⟨rfl, H.e⟩
theorem names_r (w : World) : Cl Tryz.prog 147 #[] w (fun v w' => ∃ A c, v = .slice A opNames.length c ∧ Hp nw w w' [qu strE 1 9 A c opNames]) (fun _ _ => False) := by
  refine calls_ex (args := []) T.ok Tryz.func147 rfl rfl rfl rfl ?_
  have H := Hp.begin nw w
  repeat' ((conv => whnf); first | (((with_reducible show Gd ..); first | (with_reducible first | refine Gd.t ?_ | refine Gd.f ?_ | (first | apply Gd.dec | apply Gd.beq | apply Gd.bne) <;> intro _ | refine Gd.not ?_) | refine Gd.t ?_ | refine Gd.f ?_ | apply Gd.var <;> intro _) <;> try (exfalso; omega)) | with_reducible refine Sq.mk ?_ | ((with_reducible show Ld1 ..); first | refine Ld1.h H ?_ | refine Ld1.rF ?_ | refine Ld1.r ?_) | ((with_reducible show Ld ..); first | refine Ld.h H ?_ | refine Ld.r ?_) | ((with_reducible show Ix ..); first | refine Ix.h ?_ | refine Ix.ha ?_) | (refine Al.hp H ?_; clear H; intro _ _ H _) | (refine St.h H ?_; clear H; intro _ H))
  refine Sm.lith (cs := opNames.flatMap strE) H T.ok (fun p w4 H _ => ?_)
  repeat' ((conv => whnf); first | (((with_reducible show Gd ..); first | (with_reducible first | refine Gd.t ?_ | refine Gd.f ?_ | (first | apply Gd.dec | apply Gd.beq | apply Gd.bne) <;> intro _ | refine Gd.not ?_) | refine Gd.t ?_ | refine Gd.f ?_ | apply Gd.var <;> intro _) <;> try (exfalso; omega)) | with_reducible refine Sq.mk ?_ | ((with_reducible show Ld1 ..); first | refine Ld1.h H ?_ | refine Ld1.rF ?_ | refine Ld1.r ?_) | ((with_reducible show Ld ..); first | refine Ld.h H ?_ | refine Ld.r ?_) | ((with_reducible show Ix ..); first | refine Ix.h ?_ | refine Ix.ha ?_) | (refine Al.hp H ?_; clear H; intro _ _ H _) | (refine St.h H ?_; clear H; intro _ H))
  exact ⟨some ⟨p, 0, none⟩, 16, rfl, Hp.bq (sz := 1) H (fun z _ => rfl)⟩
def opR (s : Bs) : Int := if findOp s = -1 then 0 else findOp s
theorem operation_r (s : Bs) (w : World) : Cl Tryz.prog 144 #[.string (bs s)] w (fun v w' => v = .int .i64 (opR s) ∧ Ext w w') (fun _ _ => False) := by
  refine calls_ex (args := [.string (bs s)]) T.ok Tryz.func144 rfl rfl rfl rfl ?_
  have H := Hp.begin nw w
  repeat' ((conv => whnf); first | (((with_reducible show Gd ..); first | (with_reducible first | refine Gd.t ?_ | refine Gd.f ?_ | (first | apply Gd.dec | apply Gd.beq | apply Gd.bne) <;> intro _ | refine Gd.not ?_) | refine Gd.t ?_ | refine Gd.f ?_ | apply Gd.var <;> intro _) <;> try (exfalso; omega)) | with_reducible refine Sq.mk ?_ | ((with_reducible show Ld1 ..); first | refine Ld1.h H ?_ | refine Ld1.rF ?_ | refine Ld1.r ?_) | ((with_reducible show Ld ..); first | refine Ld.h H ?_ | refine Ld.r ?_) | ((with_reducible show Ix ..); first | refine Ix.h ?_ | refine Ix.ha ?_) | (refine Al.hp H ?_; clear H; intro _ _ H _) | (refine St.h H ?_; clear H; intro _ H))
  ((conv => whnf); refine Cl.mk (names_r _) ?_)
  rintro _ w2 ⟨A, c, rfl, H'⟩
  replace H := H.fr0 H' (.inl rfl)
  clear H'
  repeat' ((conv => whnf); first | (((with_reducible show Gd ..); first | (with_reducible first | refine Gd.t ?_ | refine Gd.f ?_ | (first | apply Gd.dec | apply Gd.beq | apply Gd.bne) <;> intro _ | refine Gd.not ?_) | refine Gd.t ?_ | refine Gd.f ?_ | apply Gd.var <;> intro _) <;> try (exfalso; omega)) | with_reducible refine Sq.mk ?_ | ((with_reducible show Ld1 ..); first | refine Ld1.h H ?_ | refine Ld1.rF ?_ | refine Ld1.r ?_) | ((with_reducible show Ld ..); first | refine Ld.h H ?_ | refine Ld.r ?_) | ((with_reducible show Ix ..); first | refine Ix.h ?_ | refine Ix.ha ?_) | (refine Al.hp H ?_; clear H; intro _ _ H _) | (refine St.h H ?_; clear H; intro _ H))
  refine Lp.g0 T.ok (σ := Nat) (fun i => [(4, .int .i64 (i : Int)), (3, .slice A opNames.length c), (0, .string (bs s))])
    (fun i w' => i ≤ opNames.length ∧ findAux s (opNames.drop i) i = findOp s ∧ Hp nw w w' [qu strE 1 9 A c opNames]) (fun i _ => 16 - i) 0 rfl ⟨rfl, rfl, rfl, trivial⟩ ⟨Nat.zero_le _, rfl, H⟩ ?_
  clear H
  rintro i w5 ⟨hi, hc, H⟩
  have hkl : opNames.length = 16 := rfl
  by_cases hlt : i < opNames.length
  · obtain ⟨x, hx⟩ : ∃ x, opNames[i]? = some x := ⟨_, List.getElem?_eq_getElem hlt⟩
    obtain ⟨hx1, hx2⟩ := List.getElem?_eq_some_iff.1 hx
    rw [List.drop_eq_getElem_cons hx1, hx2] at hc
    simp only [findAux] at hc
    repeat' ((conv => whnf); first | (((with_reducible show Gd ..); first | (with_reducible first | refine Gd.t ?_ | refine Gd.f ?_ | (first | apply Gd.dec | apply Gd.beq | apply Gd.bne) <;> intro _ | refine Gd.not ?_) | refine Gd.t ?_ | refine Gd.f ?_ | apply Gd.var <;> intro _) <;> try (exfalso; omega)) | with_reducible refine Sq.mk ?_ | ((with_reducible show Ld1 ..); first | refine Ld1.h H ?_ | refine Ld1.rF ?_ | refine Ld1.r ?_) | ((with_reducible show Ld ..); first | refine Ld.h H ?_ | refine Ld.r ?_) | ((with_reducible show Ix ..); first | refine Ix.h ?_ | refine Ix.ha ?_) | (refine Al.hp H ?_; clear H; intro _ _ H _) | (refine St.h H ?_; clear H; intro _ H))
    · have hb : (bs x == bs s) = true := by assumption
      rw [bs_eq] at hb
      rw [if_pos (of_decide_eq_true hb)] at hc
      refine ⟨i_eq ?_, H.e⟩
      unfold opR
      rw [← hc, if_neg (by omega)]
    · have hb : (bs x == bs s) = false := by assumption
      rw [bs_eq] at hb
      rw [if_neg (of_decide_eq_false hb)] at hc
      exact ⟨i + 1, ⟨at_int (m := ((i + 1 : Nat) : Int)) rfl (w64 (by simp) (by omega) (by omega)), rfl, rfl, trivial⟩, rfl, ⟨by omega, hc, H⟩, by omega⟩
  · have hi : i = opNames.length := by omega
    subst hi
    repeat' ((conv => whnf); first | (((with_reducible show Gd ..); first | (with_reducible first | refine Gd.t ?_ | refine Gd.f ?_ | (first | apply Gd.dec | apply Gd.beq | apply Gd.bne) <;> intro _ | refine Gd.not ?_) | refine Gd.t ?_ | refine Gd.f ?_ | apply Gd.var <;> intro _) <;> try (exfalso; omega)) | with_reducible refine Sq.mk ?_ | ((with_reducible show Ld1 ..); first | refine Ld1.h H ?_ | refine Ld1.rF ?_ | refine Ld1.r ?_) | ((with_reducible show Ld ..); first | refine Ld.h H ?_ | refine Ld.r ?_) | ((with_reducible show Ix ..); first | refine Ix.h ?_ | refine Ix.ha ?_) | (refine Al.hp H ?_; clear H; intro _ _ H _) | (refine St.h H ?_; clear H; intro _ H))
    all_goals first | (exfalso; omega) | skip
    refine ⟨i_eq ?_, H.e⟩
    unfold opR
    rw [← hc]; rfl
theorem op_known {s : Bs} (h : s ∈ opNames) : opR s = findOp s := by
  have h1 : ∀ s ∈ opNames, opR s = findOp s := by decide
  exact h1 s h
theorem value_r (s : Bs) (w : World) (hd : Digs s) (hv : val s ≤ 9223372036854775808) (hl : s.length ≤ 1000000) : Cl Tryz.prog 143 #[.string (bs s)] w (fun v w' => v = .int .i64 (IntKind.i64.wrap (val s : Int)) ∧ Ext w w') (fun _ _ => False) := by
  refine calls_ex (args := [.string (bs s)]) T.ok Tryz.func143 rfl rfl rfl rfl ?_
  have H := Hp.begin nw w
  have hsz := bs_size s
  repeat' ((conv => whnf); first | (((with_reducible show Gd ..); first | (with_reducible first | refine Gd.t ?_ | refine Gd.f ?_ | (first | apply Gd.dec | apply Gd.beq | apply Gd.bne) <;> intro _ | refine Gd.not ?_) | refine Gd.t ?_ | refine Gd.f ?_ | apply Gd.var <;> intro _) <;> try (exfalso; omega)) | with_reducible refine Sq.mk ?_ | ((with_reducible show Ld1 ..); first | refine Ld1.h H ?_ | refine Ld1.rF ?_ | refine Ld1.r ?_) | ((with_reducible show Ld ..); first | refine Ld.h H ?_ | refine Ld.r ?_) | ((with_reducible show Ix ..); first | refine Ix.h ?_ | refine Ix.ha ?_) | (refine Al.hp H ?_; clear H; intro _ _ H _) | (refine St.h H ?_; clear H; intro _ H))
  refine Lp.g0 T.ok (σ := Nat) (fun i => [(4, .int .i64 (i : Int)), (3, .int .i64 (IntKind.i64.wrap (val (s.take i) : Int))), (0, .string (bs s))])
    (fun i w' => i ≤ s.length ∧ Hp nw w w' []) (fun i _ => s.length - i) 0 rfl ⟨rfl, rfl, rfl, trivial⟩ ⟨Nat.zero_le _, H⟩ ?_
  clear H
  rintro i w5 ⟨hi, H⟩
  by_cases hlt : i < s.length
  · obtain ⟨c, hc⟩ : ∃ c, s[i]? = some c := ⟨_, List.getElem?_eq_getElem hlt⟩
    obtain ⟨hc1, hc2⟩ := List.getElem?_eq_some_iff.1 hc
    have hcd := dig_range (hd c (by rw [← hc2]; exact List.getElem_mem hc1))
    have hst : s.take (i + 1) = s.take i ++ [c] := by rw [List.take_succ_eq_append_getElem hc1, hc2]
    have hva : val (s.take (i + 1)) = val (s.take i) * 10 + (c.toNat - 48) := by rw [hst, val_app]
    have hvl := val_take s (i + 1)
    have hw0 : IntKind.i64.wrap (val (s.take i) : Int) = (val (s.take i) : Int) := w64 rfl (by omega) (by omega)
    have hw1 : IntKind.i64.wrap ((val (s.take i) : Int) * 10) = ((val (s.take i) * 10 : Nat) : Int) := w64 (by omega) (by omega) (by omega)
    have hw2 : IntKind.u8.wrap ((c.toNat : Int) - 48) = ((c.toNat - 48 : Nat) : Int) := by
      simp [IntKind.wrap, IntKind.signed, IntKind.bits]
      omega
    have hw3 : IntKind.i64.wrap ((c.toNat - 48 : Nat) : Int) = ((c.toNat - 48 : Nat) : Int) := w64 rfl (by omega) (by omega)
    rw [hw0]
    repeat' ((conv => whnf); first | ((with_reducible show Gd (bs _ == _) _ _); first | refine Gd.sY (by assumption) ?_ | refine Gd.sk (by assumption) ?_ | refine Gd.sN (by assumption) ?_) | ((conv => whnf); first | (((with_reducible show Gd ..); first | (with_reducible first | refine Gd.t ?_ | refine Gd.f ?_ | (first | apply Gd.dec | apply Gd.beq | apply Gd.bne) <;> intro _ | refine Gd.not ?_) | refine Gd.t ?_ | refine Gd.f ?_ | apply Gd.var <;> intro _) <;> try (exfalso; omega)) | with_reducible refine Sq.mk ?_ | ((with_reducible show Ld1 ..); first | refine Ld1.h H ?_ | refine Ld1.rF ?_ | refine Ld1.r ?_) | ((with_reducible show Ld ..); first | refine Ld.h H ?_ | refine Ld.r ?_) | ((with_reducible show Ix ..); first | refine Ix.h ?_ | refine Ix.ha ?_) | (refine Al.hp H ?_; clear H; intro _ _ H _) | (refine St.h H ?_; clear H; intro _ H)) | refine Sm.strix T.ok ?_)
    all_goals first | (exfalso; omega) | skip
    refine ⟨i + 1, ⟨at_int (m := ((i + 1 : Nat) : Int)) rfl (w64 (by simp) (by omega) (by omega)), at_val rfl (i_eq ?_), rfl, trivial⟩, rfl, ⟨by omega, H⟩, by omega⟩
    rw [hw1, hw2, hw3, hva]
    congr 1
  · have hi : i = s.length := by omega
    subst hi
    repeat' ((conv => whnf); first | ((with_reducible show Gd (bs _ == _) _ _); first | refine Gd.sY (by assumption) ?_ | refine Gd.sk (by assumption) ?_ | refine Gd.sN (by assumption) ?_) | ((conv => whnf); first | (((with_reducible show Gd ..); first | (with_reducible first | refine Gd.t ?_ | refine Gd.f ?_ | (first | apply Gd.dec | apply Gd.beq | apply Gd.bne) <;> intro _ | refine Gd.not ?_) | refine Gd.t ?_ | refine Gd.f ?_ | apply Gd.var <;> intro _) <;> try (exfalso; omega)) | with_reducible refine Sq.mk ?_ | ((with_reducible show Ld1 ..); first | refine Ld1.h H ?_ | refine Ld1.rF ?_ | refine Ld1.r ?_) | ((with_reducible show Ld ..); first | refine Ld.h H ?_ | refine Ld.r ?_) | ((with_reducible show Ix ..); first | refine Ix.h ?_ | refine Ix.ha ?_) | (refine Al.hp H ?_; clear H; intro _ _ H _) | (refine St.h H ?_; clear H; intro _ H)) | refine Sm.strix T.ok ?_)
    all_goals first | (exfalso; omega) | skip
    refine ⟨i_eq ?_, H.e⟩
    rw [List.take_length]
theorem two_r (s : Bs) (x y : ET) (w : World) (hs : s ∈ binL) :
    Cl Tryz.prog 128 #[.string (bs s), x.v, y.v] w (fun v w' => ∃ kd o A c, v = ET.v (.mk kd o 0 [] [] A c [x, y]) ∧ joinP s x.e y.e = ET.e (.mk kd o 0 [] [] A c [x, y]) ∧ Hp nw w w' [qu ET.enc 6 74 A c [x, y]]) (fun _ _ => False) := by
  obtain ⟨k1, o1, n1, a1, b1, A1, c1, l1⟩ := x
  obtain ⟨k2, o2, n2, a2, b2, A2, c2, l2⟩ := y
  generalize hx : ET.mk k1 o1 n1 a1 b1 A1 c1 l1 = x
  generalize hy : ET.mk k2 o2 n2 a2 b2 A2 c2 l2 = y
  have hvx : x.v = .agg #[.int .i64 k1, .int .i64 o1, .int .i64 n1, .string (bs a1), .string (bs b1), .slice A1 l1.length c1] := by rw [← hx]; rfl
  have hvy : y.v = .agg #[.int .i64 k2, .int .i64 o2, .int .i64 n2, .string (bs a2), .string (bs b2), .slice A2 l2.length c2] := by rw [← hy]; rfl
  rw [hvx, hvy]
  refine calls_ex (args := [.string (bs s), .agg #[.int .i64 k1, .int .i64 o1, .int .i64 n1, .string (bs a1), .string (bs b1), .slice A1 l1.length c1], .agg #[.int .i64 k2, .int .i64 o2, .int .i64 n2, .string (bs a2), .string (bs b2), .slice A2 l2.length c2]]) T.ok Tryz.func128 rfl rfl rfl rfl ?_
  have H := Hp.begin nw w
  refine Sq.mk ?_
  ((conv => whnf); refine Al.hp H ?_; clear H; intro p4 _ H _)
  ((conv => whnf); refine Al.hp H ?_; clear H; intro p5 _ H _)
  ((conv => whnf); refine Al.hp H ?_; clear H; intro p6 _ H _)
  repeat' ((conv => whnf); first | (((with_reducible show Gd ..); first | (with_reducible first | refine Gd.t ?_ | refine Gd.f ?_ | (first | apply Gd.dec | apply Gd.beq | apply Gd.bne) <;> intro _ | refine Gd.not ?_) | refine Gd.t ?_ | refine Gd.f ?_ | apply Gd.var <;> intro _) <;> try (exfalso; omega)) | with_reducible refine Sq.mk ?_ | ((with_reducible show Ld1 ..); first | refine Ld1.h H ?_ | refine Ld1.rF ?_ | refine Ld1.r ?_) | ((with_reducible show Ld ..); first | refine Ld.h H ?_ | refine Ld.r ?_) | ((with_reducible show Ix ..); first | refine Ix.h ?_ | refine Ix.ha ?_) | (refine St.h H ?_; clear H; intro _ H))
  refine Sm.lith (cs := [.int .i64 k1, .int .i64 o1, .int .i64 n1, .string (bs a1), .string (bs b1), .slice A1 l1.length c1, .int .i64 k2, .int .i64 o2, .int .i64 n2, .string (bs a2), .string (bs b2), .slice A2 l2.length c2]) H T.ok (fun p1 w1 H _ => ?_)
  have hfix : ∀ w', Hp nw w w' [bk p1 74 [.int .i64 k1, .int .i64 o1, .int .i64 n1, .string (bs a1), .string (bs b1), .slice A1 l1.length c1, .int .i64 k2, .int .i64 o2, .int .i64 n2, .string (bs a2), .string (bs b2), .slice A2 l2.length c2]] → Hp nw w w' [qu ET.enc 6 74 (some ⟨p1, 0, none⟩) 2 [x, y]] := fun w' H => by
    have H1 : Hp nw w w' [bk p1 74 ([x, y].flatMap ET.enc)] := by rw [← hx, ← hy]; exact H
    exact Hp.bq (sz := 6) H1 (fun z _ => ET.enc_len z)
  ((conv => whnf); refine Al.hp H ?_; clear H; intro p7 _ H _)
  by_cases h1 : s = s_andd
  · repeat' ((conv => whnf); first | ((with_reducible show Gd (bs _ == _) _ _); first | refine Gd.sY (by assumption) ?_ | refine Gd.sk (by assumption) ?_ | refine Gd.sN (by assumption) ?_) | ((conv => whnf); first | (((with_reducible show Gd ..); first | (with_reducible first | refine Gd.t ?_ | refine Gd.f ?_ | (first | apply Gd.dec | apply Gd.beq | apply Gd.bne) <;> intro _ | refine Gd.not ?_) | refine Gd.t ?_ | refine Gd.f ?_ | apply Gd.var <;> intro _) <;> try (exfalso; omega)) | with_reducible refine Sq.mk ?_ | ((with_reducible show Ld1 ..); first | refine Ld1.h H ?_ | refine Ld1.rF ?_ | refine Ld1.r ?_) | ((with_reducible show Ld ..); first | refine Ld.h H ?_ | refine Ld.r ?_) | ((with_reducible show Ix ..); first | refine Ix.h ?_ | refine Ix.ha ?_) | (refine St.h H ?_; clear H; intro _ H)) | refine Sm.strix T.ok ?_)
    refine ⟨8, 0, some ⟨p1, 0, none⟩, 2, et_v rfl, ?_, hfix _ (H.sel [1] rfl)⟩
    unfold joinP; rw [if_pos h1]; rfl
  · by_cases h2 : s = s_orr
    · repeat' ((conv => whnf); first | ((with_reducible show Gd (bs _ == _) _ _); first | refine Gd.sY (by assumption) ?_ | refine Gd.sk (by assumption) ?_ | refine Gd.sN (by assumption) ?_) | ((conv => whnf); first | (((with_reducible show Gd ..); first | (with_reducible first | refine Gd.t ?_ | refine Gd.f ?_ | (first | apply Gd.dec | apply Gd.beq | apply Gd.bne) <;> intro _ | refine Gd.not ?_) | refine Gd.t ?_ | refine Gd.f ?_ | apply Gd.var <;> intro _) <;> try (exfalso; omega)) | with_reducible refine Sq.mk ?_ | ((with_reducible show Ld1 ..); first | refine Ld1.h H ?_ | refine Ld1.rF ?_ | refine Ld1.r ?_) | ((with_reducible show Ld ..); first | refine Ld.h H ?_ | refine Ld.r ?_) | ((with_reducible show Ix ..); first | refine Ix.h ?_ | refine Ix.ha ?_) | (refine St.h H ?_; clear H; intro _ H)) | refine Sm.strix T.ok ?_)
      refine ⟨9, 0, some ⟨p1, 0, none⟩, 2, et_v rfl, ?_, hfix _ (H.sel [1] rfl)⟩
      unfold joinP; rw [if_neg h1, if_pos h2]; rfl
    · have ho : opR s = findOp s := by
        have h3 : ∀ s ∈ binL, s ≠ s_andd → s ≠ s_orr → opR s = findOp s := by decide
        exact h3 s hs h1 h2
      repeat' (first | ((conv => whnf); first | ((with_reducible show Gd (bs _ == _) _ _); first | refine Gd.sY (by assumption) ?_ | refine Gd.sk (by assumption) ?_ | refine Gd.sN (by assumption) ?_) | ((conv => whnf); first | (((with_reducible show Gd ..); first | (with_reducible first | refine Gd.t ?_ | refine Gd.f ?_ | (first | apply Gd.dec | apply Gd.beq | apply Gd.bne) <;> intro _ | refine Gd.not ?_) | refine Gd.t ?_ | refine Gd.f ?_ | apply Gd.var <;> intro _) <;> try (exfalso; omega)) | with_reducible refine Sq.mk ?_ | ((with_reducible show Ld1 ..); first | refine Ld1.h H ?_ | refine Ld1.rF ?_ | refine Ld1.r ?_) | ((with_reducible show Ld ..); first | refine Ld.h H ?_ | refine Ld.r ?_) | ((with_reducible show Ix ..); first | refine Ix.h ?_ | refine Ix.ha ?_) | (refine St.h H ?_; clear H; intro _ H)) | refine Sm.strix T.ok ?_) | (((conv => whnf); refine Cl.mk (operation_r s _) ?_); rintro _ _ ⟨rfl, hx⟩; replace H := H.ext hx; clear hx))
      refine ⟨4, opR s, some ⟨p1, 0, none⟩, 2, et_v rfl, ?_, hfix _ (H.sel [1] rfl)⟩
      unfold joinP; rw [if_neg h1, if_neg h2, ho]; rfl
end Go.Proofs.YtfnjodpehomgfaaGreatDoor
namespace Go.Tx
def Res.and {α β : Type} (R : Res α) (f : α → List Tk → Res β) : Res (α × β) := R.bind fun a ts => (f a ts).bind fun b ts' => .ok (a, b) ts'
def Res.map {α β : Type} (g : α → β) (R : Res α) : Res β := R.bind fun a ts => .ok (g a) ts
def Vl {α : Type} (R : Res α) (P : α → Prop) : Prop := ∀ a ts, R = .ok a ts → P a
section
variable {α β γ : Type}
theorem Res.map_bind (R : Res α) (g : α → β) (K : β → List Tk → Res γ) : (R.map g).bind K = R.bind fun a ts => K (g a) ts := by cases R <;> rfl
theorem Res.and_bind (R : Res α) (f : α → List Tk → Res β) (K : α × β → List Tk → Res γ) : (R.and f).bind K = R.bind fun a ts => (f a ts).bind fun b ts' => K (a, b) ts' := by
  cases R with
  | out => rfl
  | err e p => rfl
  | ok a ts => show ((f a ts).bind _).bind K = (f a ts).bind _; cases f a ts <;> rfl
theorem AtR.map {R : Res α} {s : RS} (h : AtR R s) (g : α → β) : AtR (R.map g) s := by
  obtain ⟨h1, h2⟩ := h
  exact ⟨h1, by cases R <;> exact h2⟩
theorem AtR.and_of {R : Res α} {f : α → List Tk → Res β} {s : RS} (h : AtR (R.bind f) s) : AtR (R.and f) s := by
  obtain ⟨h1, h2⟩ := h
  refine ⟨h1, ?_⟩
  cases R with
  | out => exact h2
  | err e p => exact h2
  | ok a ts =>
    show AtC ((f a ts).bind _) s
    have h2 : AtC (f a ts) s := h2
    revert h2
    cases f a ts <;> exact id
theorem AtR.ok_and {a : α} {ts : List Tk} {f : α → List Tk → Res β} {s : RS} (h : AtR (f a ts) s) : AtR (Res.and (.ok a ts) f) s := AtR.and_of h
theorem AtR.same {R R' : Res α} {s : RS} (h : AtR R s) (e : R = R') : AtR R' s := e ▸ h
theorem AtR.toErr {e : Int} {p : Nat} {s : RS} (h : AtR (.err e p : Res α) s) : AtR (.err e p : Res β) s := ⟨h.1, h.2⟩
theorem Vl.ok {a : α} {ts : List Tk} {P : α → Prop} (h : P a) : Vl (.ok a ts) P := fun b ts' e => by
  simp only [Res.ok.injEq] at e
  rw [← e.1]; exact h
theorem Vl.err {e : Int} {p : Nat} {P : α → Prop} : Vl (.err e p) P := fun b ts' h => by simp at h
theorem Vl.map {R : Res α} {g : α → β} {P : β → Prop} (h : Vl R fun a => P (g a)) : Vl (R.map g) P := fun b ts e => by
  cases R with
  | out => simp [Res.map, Res.bind] at e
  | err e' p => simp [Res.map, Res.bind] at e
  | ok a ts' =>
    simp only [Res.map, Res.bind, Res.ok.injEq] at e
    rw [← e.1]; exact h a ts' rfl
theorem Vl.mono {R : Res α} {P Q : α → Prop} (h : Vl R P) (k : ∀ a, P a → Q a) : Vl R Q := fun a ts e => k a (h a ts e)
theorem Vl.mono2 {R : Res α} {P P' Q : α → Prop} (h : Vl R P) (h' : Vl R P') (k : ∀ a, P a → P' a → Q a) : Vl R Q := fun a ts e => k a (h a ts e) (h' a ts e)
theorem Vl.fst {R : Res α} {f : α → List Tk → Res β} {P : α → Prop} (h : Vl R P) : Vl (R.and f) fun p => P p.1 := fun p ts e => by
  cases R with
  | out => simp [Res.and, Res.bind] at e
  | err e' q => simp [Res.and, Res.bind] at e
  | ok a ts' =>
    simp only [Res.and, Res.bind] at e
    cases hf : f a ts' with
    | out => rw [hf] at e; simp at e
    | err e' q => rw [hf] at e; simp at e
    | ok b ts2 =>
      rw [hf] at e
      simp only [Res.ok.injEq] at e
      rw [← e.1]; exact h a ts' rfl
theorem Vl.ok_and {a : α} {ts : List Tk} {f : α → List Tk → Res β} {P : β → Prop} (h : Vl (f a ts) P) : Vl (Res.and (.ok a ts) f) fun p => P p.2 := fun p ts' e => by
  simp only [Res.and, Res.bind] at e
  cases hf : f a ts with
  | out => rw [hf] at e; simp at e
  | err e' q => rw [hf] at e; simp at e
  | ok b ts2 =>
    rw [hf] at e
    simp only [Res.ok.injEq] at e
    rw [← e.1]; exact h b ts2 hf
theorem Res.and_out {R : Res α} {f : α → List Tk → Res β} (h : R.and f ≠ .out) : R ≠ .out := fun e => h (by rw [e]; rfl)
theorem Res.map_out {R : Res α} {g : α → β} (h : R.map g ≠ .out) : R ≠ .out := fun e => h (by rw [e]; rfl)
theorem Res.and_ok_out {a : α} {ts : List Tk} {f : α → List Tk → Res β} (h : Res.and (.ok a ts) f ≠ .out) : f a ts ≠ .out := fun e => h (by simp [Res.and, Res.bind, e])
end
structure Gdw (ts : List Tk) : Prop where
  ends : Ends ts
  ok : chk ts = .ok () ts
theorem Gdw.at {ts : List Tk} (h : Gdw ts) {α : Type} (a : α) : AtR (.ok a ts) ⟨ts, none⟩ := ⟨h.ends, rfl, rfl, h.ok⟩
theorem AtR.gd {α : Type} {a : α} {ts : List Tk} {s : RS} (h : AtR (.ok a ts) s) : s = ⟨ts, none⟩ ∧ Gdw ts := by
  obtain ⟨h1, h2, h3, h4⟩ := h
  obtain ⟨ts', sp⟩ := s
  simp only at h2 h3 h1
  subst h2 h3
  exact ⟨rfl, h1, h4⟩
theorem ends_ne {ts : List Tk} (h : Ends ts) : ts ≠ [] := by
  rintro rfl
  exact h
theorem step_at' {t : Tk} {r : List Tk} (h : Ends (t :: r)) (he : t.err = 0) (hk : t.kind ≠ k_end) : AtR (stepP false (t :: r)) ⟨r, none⟩ := by
  obtain ⟨t', u, r', e⟩ := Way.ne (ts := t :: r) ⟨h, he⟩ hk
  simp only [List.cons.injEq] at e
  obtain ⟨rfl, rfl⟩ := e
  have he : Ends (u :: r') := h
  rw [step_chk]
  refine ⟨he, ?_⟩
  rcases chk_cases he with hc | ⟨e, p, hc⟩
  · rw [hc]; exact ⟨rfl, rfl, hc⟩
  · rw [hc]; exact .inr ⟨rfl, hc⟩
def NumOk (t : Tk) : Prop := t.kind = k_number → t.err = 0 → Digs t.text ∧ t.n = -(val t.text : Int) ∧ val t.text ≤ 9223372036854775808 ∧ t.text.length ≤ 1000000
end Go.Tx
namespace Go.Proofs.YtfnjodpehomgfaaGreatDoor
open Go Go.Sh Go.Tx
attribute [local irreducible] Blk Ext RdS
def OkE (src : Bs) (pr : Nat) (R : Res Ex) (w : World) (v : Value) (w' : World) : Prop := ∃ t ts', R = .ok (ET.e t) ts' ∧ v = t.v ∧ Hp (· = pr) w w' [trs [t], rdr src pr ts']
def OkL (src : Bs) (pr : Nat) (R : Res (List Ex)) (w : World) (v : Value) (w' : World) : Prop := ∃ A c l ts', R = .ok (ET.es l) ts' ∧ v = .slice A l.length c ∧ l.length ≤ 2000000 ∧ Hp (· = pr) w w' [qu ET.enc 6 74 A c l, trs l, rdr src pr ts']
def OkB (src : Bs) (pr : Nat) (R : Res (List St)) (w : World) (v : Value) (w' : World) : Prop := ∃ B c l ts', R = .ok (SM.es l) ts' ∧ v = .slice B l.length c ∧ Hp (· = pr) w w' [stl B c l, rdr src pr ts']
def OkS (src : Bs) (pr : Nat) (R : Res St) (w : World) (v : Value) (w' : World) : Prop := ∃ s ts', R = .ok (SM.e s) ts' ∧ v = s.v ∧ Hp (· = pr) w w' [sts [s], rdr src pr ts']
structure Txt (src : Bs) (pr : Nat) (wb : World) : Prop where
  lo : wb.heap.size ≤ pr
  tb : Tb wb
  len : src.length ≤ 1000000
theorem Txt.ok {src : Bs} {pr : Nat} {wb w : World} (X : Txt src pr wb) (h : Ext wb w) : BaseOk (· = pr) wb w := ⟨h, fun k hk => by subst hk; exact X.lo⟩
structure Con (src : Bs) (pr : Nat) (wb : World) (F : PF) : Prop where
  expr : ∀ (level d : Nat) (ts : List Tk) (w : World), level ≤ 8 → d ≤ 41 → Ext wb w → Rdr src pr ts w → F.expr level d ts ≠ .out → Cl Tryz.prog 111 #[.pointer (some ⟨pr, 0, none⟩), .int .i64 (level : Int), .int .i64 (d : Int)] w (OkE src pr (F.expr level d ts) w) (PanX (F.expr level d ts) pr w)
  unary : ∀ (d : Nat) (ts : List Tk) (w : World), d ≤ 41 → Ext wb w → Rdr src pr ts w → F.unary d ts ≠ .out → Cl Tryz.prog 130 #[.pointer (some ⟨pr, 0, none⟩), .int .i64 (d : Int)] w (OkE src pr (F.unary d ts) w) (PanX (F.unary d ts) pr w)
  primary : ∀ (d : Nat) (ts : List Tk) (w : World), d ≤ 41 → Ext wb w → Rdr src pr ts w → F.primary d ts ≠ .out → Cl Tryz.prog 145 #[.pointer (some ⟨pr, 0, none⟩), .int .i64 (d : Int)] w (OkE src pr (F.primary d ts) w) (PanX (F.primary d ts) pr w)
  block : ∀ (d : Nat) (ts : List Tk) (w : World), d ≤ 41 → Ext wb w → Rdr src pr ts w → F.block d ts ≠ .out → Cl Tryz.prog 62 #[.pointer (some ⟨pr, 0, none⟩), .int .i64 (d : Int)] w (OkB src pr (F.block d ts) w) (PanX (F.block d ts) pr w)
  choice : ∀ (d : Nat) (ts : List Tk) (w : World), d ≤ 40 → Ext wb w → Rdr src pr ts w → F.choice d ts ≠ .out → Cl Tryz.prog 110 #[.pointer (some ⟨pr, 0, none⟩), .int .i64 (d : Int)] w (OkS src pr (F.choice d ts) w) (PanX (F.choice d ts) pr w)
theorem Res.bind_ok {α β : Type} {a : α} {ts : List Tk} {k : α → List Tk → Res β} : (Res.ok a ts).bind k = k a ts := rfl
theorem Res.bind_assoc {α β γ : Type} {r : Res α} {k : α → List Tk → Res β} {g : β → List Tk → Res γ} : (r.bind k).bind g = r.bind fun a ts => (k a ts).bind g := by cases r <;> rfl
theorem Res.bind_out {α β : Type} {r : Res α} {k : α → List Tk → Res β} (h : r.bind k ≠ .out) : r ≠ .out := fun e => h (by rw [e]; rfl)
theorem Hp.ofR {S : Nat → Prop} {w0 w : World} {Γ Γ' : List Ck} {src : Bs} {pr nx : Nat} {t : Tk} {r : List Tk} (H : Hp S w0 w Γ) (hb : Blk w pr 68 (rdrCs src nx t))
    (u : Upd1 Γ (rdr src pr (t :: r)) (bk pr 68 (rdrCs src nx t)) Γ' := by (repeat (first | exact Upd1.head | apply Upd1.tail))) : Hp S w0 w Γ' :=
  Hp.upd (c := rdr src pr (t :: r)) H (Hp.start (S := (· = pr)) (bk_ok hb) (fun k hk => hk)) rfl (.inl rfl) u
section
variable {src : Bs} {pr : Nat} {wb : World} {F : PF} (X : Txt src pr wb) (C : Con src pr wb F)
include X C
set_option maxHeartbeats 2000000 in
theorem expr_c (level d : Nat) (ts : List Tk) (w : World) (hlv : level ≤ 8) (hd : d ≤ 41) (hwb : Ext wb w) (h : Rdr src pr ts w) (hne : exprP F level d ts ≠ .out) :
    Cl Tryz.prog 111 #[.pointer (some ⟨pr, 0, none⟩), .int .i64 (level : Int), .int .i64 (d : Int)] w (OkE src pr (exprP F level d ts) w) (PanX (exprP F level d ts) pr w) := by
  have HB := X.ok hwb
  refine calls_ex (args := [.pointer (some ⟨pr, 0, none⟩), .int .i64 (level : Int), .int .i64 (d : Int)]) T.ok Tryz.func111 rfl rfl rfl rfl ?_
  have H := Hp.start (S := (· = pr)) (rdr_ok h) (fun k hk => hk)
  refine Sq.mk ?_
  ((conv => whnf); refine Al.hp H ?_; clear H; intro p6 _ H _)
  by_cases h8 : level = 8
  · have hR : exprP F level d ts = F.unary d ts := by unfold exprP; rw [if_pos h8]
    rw [hR] at hne ⊢
    repeat' ((conv => whnf); first | (((with_reducible show Gd ..); first | (with_reducible first | refine Gd.t ?_ | refine Gd.f ?_ | (first | apply Gd.dec | apply Gd.beq | apply Gd.bne) <;> intro _ | refine Gd.not ?_) | refine Gd.t ?_ | refine Gd.f ?_ | apply Gd.var <;> intro _) <;> try (exfalso; omega)) | with_reducible refine Sq.mk ?_ | ((with_reducible show Ld1 ..); first | refine Ld1.h H ?_ | refine Ld1.rF ?_ | refine Ld1.r ?_) | ((with_reducible show Ld ..); first | refine Ld.h H ?_ | refine Ld.r ?_) | ((with_reducible show Ix ..); first | refine Ix.h ?_ | refine Ix.ha ?_) | (refine Al.hp H ?_; clear H; intro _ _ H _) | (refine St.h H ?_; clear H; intro _ H))
    all_goals first | (exfalso; omega) | skip
    (conv => whnf)
    refine Cl.mkX (C.unary d ts _ hd (H.base2 HB) (H.atC 1 rfl) hne) ?_ ?_
    · rintro _ w2 ⟨⟨kd, o, n, nm, cb, A, c, l⟩, ts', h1, rfl, H'⟩
      replace H := H.updn (c := rdr src pr ts) (Hp.swap H') rfl (.inl rfl) (.inl rfl)
      clear H'
      repeat' ((conv => whnf); first | (((with_reducible show Gd ..); first | (with_reducible first | refine Gd.t ?_ | refine Gd.f ?_ | (first | apply Gd.dec | apply Gd.beq | apply Gd.bne) <;> intro _ | refine Gd.not ?_) | refine Gd.t ?_ | refine Gd.f ?_ | apply Gd.var <;> intro _) <;> try (exfalso; omega)) | with_reducible refine Sq.mk ?_ | ((with_reducible show Ld1 ..); first | refine Ld1.h H ?_ | refine Ld1.rF ?_ | refine Ld1.r ?_) | ((with_reducible show Ld ..); first | refine Ld.h H ?_ | refine Ld.r ?_) | ((with_reducible show Ix ..); first | refine Ix.h ?_ | refine Ix.ha ?_) | (refine Al.hp H ?_; clear H; intro _ _ H _) | (refine St.h H ?_; clear H; intro _ H))
      exact ⟨.mk kd o n nm cb A c l, ts', h1, et_v rfl, H.sel [0, 1] rfl⟩
    · rintro ch w2 ⟨e, p, q, h1, rfl, H'⟩
      exact ⟨e, p, q, h1, rfl, Hp.pan H H' (.inl rfl)⟩
  · obtain ⟨R, hR⟩ : ∃ R, R = exprP F level d ts := ⟨_, rfl⟩
    rw [← hR] at hne ⊢
    unfold exprP at hR
    rw [if_neg h8] at hR
    have hw1 : IntKind.i64.wrap ((level : Int) + 1) = ((level + 1 : Nat) : Int) := w64 rfl (by omega) (by omega)
    have hex := fun ts w => C.expr (level + 1) d ts w (by omega) hd
    rw [← hw1] at hex
    repeat' ((conv => whnf); first | (((with_reducible show Gd ..); first | (with_reducible first | refine Gd.t ?_ | refine Gd.f ?_ | (first | apply Gd.dec | apply Gd.beq | apply Gd.bne) <;> intro _ | refine Gd.not ?_) | refine Gd.t ?_ | refine Gd.f ?_ | apply Gd.var <;> intro _) <;> try (exfalso; omega)) | with_reducible refine Sq.mk ?_ | ((with_reducible show Ld1 ..); first | refine Ld1.h H ?_ | refine Ld1.rF ?_ | refine Ld1.r ?_) | ((with_reducible show Ld ..); first | refine Ld.h H ?_ | refine Ld.r ?_) | ((with_reducible show Ix ..); first | refine Ix.h ?_ | refine Ix.ha ?_) | (refine Al.hp H ?_; clear H; intro _ _ H _) | (refine St.h H ?_; clear H; intro _ H))
    all_goals first | (exfalso; omega) | skip
    (conv => whnf)
    refine Cl.mkX (hex ts _ (H.base2 HB) (H.atC 1 rfl) (Res.bind_out (by rw [← hR]; exact hne))) ?_ ?_
    · rintro _ w2 ⟨⟨kd, o, n, nm, cb, A, c, l⟩, ts', h1, rfl, H'⟩
      replace H := H.updn (c := rdr src pr ts) (Hp.swap H') rfl (.inl rfl) (.inl rfl)
      clear H'
      rw [h1] at hR
      replace hR : R = loopE F level d (ts'.length + 1) (ET.e (.mk kd o n nm cb A c l)) ts' := hR
      repeat' ((conv => whnf); first | (((with_reducible show Gd ..); first | (with_reducible first | refine Gd.t ?_ | refine Gd.f ?_ | (first | apply Gd.dec | apply Gd.beq | apply Gd.bne) <;> intro _ | refine Gd.not ?_) | refine Gd.t ?_ | refine Gd.f ?_ | apply Gd.var <;> intro _) <;> try (exfalso; omega)) | with_reducible refine Sq.mk ?_ | ((with_reducible show Ld1 ..); first | refine Ld1.h H ?_ | refine Ld1.rF ?_ | refine Ld1.r ?_) | ((with_reducible show Ld ..); first | refine Ld.h H ?_ | refine Ld.r ?_) | ((with_reducible show Ix ..); first | refine Ix.h ?_ | refine Ix.ha ?_) | (refine St.h H ?_; clear H; intro _ H))
      ((conv => whnf); refine Al.hp H ?_; clear H; intro p7 _ H _)
      repeat' ((conv => whnf); first | (((with_reducible show Gd ..); first | (with_reducible first | refine Gd.t ?_ | refine Gd.f ?_ | (first | apply Gd.dec | apply Gd.beq | apply Gd.bne) <;> intro _ | refine Gd.not ?_) | refine Gd.t ?_ | refine Gd.f ?_ | apply Gd.var <;> intro _) <;> try (exfalso; omega)) | with_reducible refine Sq.mk ?_ | ((with_reducible show Ld1 ..); first | refine Ld1.h H ?_ | refine Ld1.rF ?_ | refine Ld1.r ?_) | ((with_reducible show Ld ..); first | refine Ld.h H ?_ | refine Ld.r ?_) | ((with_reducible show Ix ..); first | refine Ix.h ?_ | refine Ix.ha ?_) | (refine Al.hp H ?_; clear H; intro _ _ H _) | (refine St.h H ?_; clear H; intro _ H))
      refine Lp.g0 T.ok (σ := Nat × ET × List Tk) (fun q => [(7, .pointer (some ⟨p7, 0, none⟩)), (0, .pointer (some ⟨pr, 0, none⟩)), (1, .int .i64 (level : Int)), (2, .int .i64 (d : Int)), (6, .pointer (some ⟨p6, 0, none⟩))])
        (fun q w' => R = loopE F level d q.1 (ET.e q.2.1) q.2.2 ∧ Hp (· = pr) w w' [bk p7 74 (ET.enc q.2.1), trs [q.2.1], bk p6 74 T.t74.zero.cells.toList, rdr src pr q.2.2]) (fun q _ => q.1) (ts'.length + 1, .mk kd o n nm cb A c l, ts') rfl ⟨rfl, rfl, rfl, rfl, rfl, trivial⟩ ⟨hR, H⟩ ?_
      clear H hR h1
      rintro ⟨f, ⟨kd, o, n, nm, cb, A, c, l⟩, ts⟩ w5 ⟨hR, H⟩
      simp only at hR H ⊢
      cases f with
      | zero => exact absurd hR hne
      | succ f =>
      simp only [loopE] at hR
      by_cases hs : standsB level (curK ts) = true
      case neg =>
        rw [if_neg hs] at hR
        repeat' (first | ((conv => whnf); first | (((with_reducible show Gd ..); first | (with_reducible first | refine Gd.t ?_ | refine Gd.f ?_ | (first | apply Gd.dec | apply Gd.beq | apply Gd.bne) <;> intro _ | refine Gd.not ?_) | refine Gd.t ?_ | refine Gd.f ?_ | apply Gd.var <;> intro _) <;> try (exfalso; omega)) | with_reducible refine Sq.mk ?_ | ((with_reducible show Ld1 ..); first | refine Ld1.h H ?_ | refine Ld1.rF ?_ | refine Ld1.r ?_) | ((with_reducible show Ld ..); first | refine Ld.h H ?_ | refine Ld.r ?_) | ((with_reducible show Ix ..); first | refine Ix.h ?_ | refine Ix.ha ?_) | (refine Al.hp H ?_; clear H; intro _ _ H _) | (refine St.h H ?_; clear H; intro _ H)) | ((((conv => whnf); refine Cl.mk (stands_c level src pr ts _ (X.tb.ext (H.base2 HB)) (by omega) (H.atC 3 rfl)) ?_); rintro _ _ ⟨rfl, hx⟩; replace H := H.ext hx; clear hx); rw [Bool.eq_false_iff.2 hs]))
        exact ⟨.mk kd o n nm cb A c l, ts, hR, et_v rfl, H.sel [1, 2] rfl⟩
      rw [if_pos hs] at hR
      repeat' ((conv => whnf); first | (((with_reducible show Gd ..); first | (with_reducible first | refine Gd.t ?_ | refine Gd.f ?_ | (first | apply Gd.dec | apply Gd.beq | apply Gd.bne) <;> intro _ | refine Gd.not ?_) | refine Gd.t ?_ | refine Gd.f ?_ | apply Gd.var <;> intro _) <;> try (exfalso; omega)) | with_reducible refine Sq.mk ?_ | ((with_reducible show Ld1 ..); first | refine Ld1.h H ?_ | refine Ld1.rF ?_ | refine Ld1.r ?_) | ((with_reducible show Ld ..); first | refine Ld.h H ?_ | refine Ld.r ?_) | ((with_reducible show Ix ..); first | refine Ix.h ?_ | refine Ix.ha ?_) | (refine Al.hp H ?_; clear H; intro _ _ H _) | (refine St.h H ?_; clear H; intro _ H))
      (((conv => whnf); refine Cl.mk (stands_c level src pr ts _ (X.tb.ext (H.base2 HB)) (by omega) (H.atC 3 rfl)) ?_); rintro _ _ ⟨rfl, hx⟩; replace H := H.ext hx; clear hx)
      rw [hs]
      obtain ⟨nx, t0, r0, rfl, hnx, hr0, hb0⟩ := H.atC (c := rdr src pr ts) 3 rfl
      replace H := Hp.ofR H hb0
      clear hb0
      repeat' ((conv => whnf); first | (((with_reducible show Gd ..); first | (with_reducible first | refine Gd.t ?_ | refine Gd.f ?_ | (first | apply Gd.dec | apply Gd.beq | apply Gd.bne) <;> intro _ | refine Gd.not ?_) | refine Gd.t ?_ | refine Gd.f ?_ | apply Gd.var <;> intro _) <;> try (exfalso; omega)) | with_reducible refine Sq.mk ?_ | ((with_reducible show Ld1 ..); first | refine Ld1.h H ?_ | refine Ld1.rF ?_ | refine Ld1.r ?_) | ((with_reducible show Ld ..); first | refine Ld.h H ?_ | refine Ld.r ?_) | ((with_reducible show Ix ..); first | refine Ix.h ?_ | refine Ix.ha ?_) | (refine Al.hp H ?_; clear H; intro _ _ H _) | (refine St.h H ?_; clear H; intro _ H))
      replace H := Hp.toR H hnx hr0
      (conv => whnf)
      refine Cl.mkX (step_c false src pr (t0 :: r0) wb _ (H.base2 HB) X.lo X.tb X.len (H.atC 3 rfl) (stands_ne hs)) ?_ ?_
      rotate_left
      · rintro ch w2 ⟨e, p, q, h1, rfl, H'⟩
        exact ⟨e, p, q, by rw [hR, h1]; rfl, rfl, Hp.pan H H' (.inl rfl)⟩
      rintro _ w2 ⟨ts1, h1, H'⟩
      replace H := H.upd (c := rdr src pr (t0 :: r0)) H' rfl (.inl rfl)
      clear H'
      rw [h1] at hR
      replace hR : R = (F.expr (level + 1) d ts1).bind (fun r ts2 => loopE F level d f (joinP t0.kind (ET.e (.mk kd o n nm cb A c l)) r) ts2) := hR
      repeat' ((conv => whnf); first | (((with_reducible show Gd ..); first | (with_reducible first | refine Gd.t ?_ | refine Gd.f ?_ | (first | apply Gd.dec | apply Gd.beq | apply Gd.bne) <;> intro _ | refine Gd.not ?_) | refine Gd.t ?_ | refine Gd.f ?_ | apply Gd.var <;> intro _) <;> try (exfalso; omega)) | with_reducible refine Sq.mk ?_ | ((with_reducible show Ld1 ..); first | refine Ld1.h H ?_ | refine Ld1.rF ?_ | refine Ld1.r ?_) | ((with_reducible show Ld ..); first | refine Ld.h H ?_ | refine Ld.r ?_) | ((with_reducible show Ix ..); first | refine Ix.h ?_ | refine Ix.ha ?_) | (refine Al.hp H ?_; clear H; intro _ _ H _) | (refine St.h H ?_; clear H; intro _ H))
      (conv => whnf)
      refine Cl.mkX (hex ts1 _ (H.base2 HB) (H.atC 3 rfl) (Res.bind_out (by rw [← hR]; exact hne))) ?_ ?_
      rotate_left
      · rintro ch w3 ⟨e, p, q, h2, rfl, H'⟩
        exact ⟨e, p, q, by rw [hR, h2]; rfl, rfl, Hp.pan H H' (.inl rfl)⟩
      rintro _ w3 ⟨⟨kd2, o2, n2, nm2, cb2, A2, c2, l2⟩, ts2, h2, rfl, H'⟩
      replace H := H.updn (c := rdr src pr ts1) (Hp.swap H') rfl (.inl rfl) (.inl rfl)
      clear H'
      rw [h2] at hR
      replace hR : R = loopE F level d f (joinP t0.kind (ET.e (.mk kd o n nm cb A c l)) (ET.e (.mk kd2 o2 n2 nm2 cb2 A2 c2 l2))) ts2 := hR
      repeat' ((conv => whnf); first | (((with_reducible show Gd ..); first | (with_reducible first | refine Gd.t ?_ | refine Gd.f ?_ | (first | apply Gd.dec | apply Gd.beq | apply Gd.bne) <;> intro _ | refine Gd.not ?_) | refine Gd.t ?_ | refine Gd.f ?_ | apply Gd.var <;> intro _) <;> try (exfalso; omega)) | with_reducible refine Sq.mk ?_ | ((with_reducible show Ld1 ..); first | refine Ld1.h H ?_ | refine Ld1.rF ?_ | refine Ld1.r ?_) | ((with_reducible show Ld ..); first | refine Ld.h H ?_ | refine Ld.r ?_) | ((with_reducible show Ix ..); first | refine Ix.h ?_ | refine Ix.ha ?_) | (refine St.h H ?_; clear H; intro _ H))
      ((conv => whnf); refine Al.hp H ?_; clear H; intro p9 _ H _)
      repeat' ((conv => whnf); first | (((with_reducible show Gd ..); first | (with_reducible first | refine Gd.t ?_ | refine Gd.f ?_ | (first | apply Gd.dec | apply Gd.beq | apply Gd.bne) <;> intro _ | refine Gd.not ?_) | refine Gd.t ?_ | refine Gd.f ?_ | apply Gd.var <;> intro _) <;> try (exfalso; omega)) | with_reducible refine Sq.mk ?_ | ((with_reducible show Ld1 ..); first | refine Ld1.h H ?_ | refine Ld1.rF ?_ | refine Ld1.r ?_) | ((with_reducible show Ld ..); first | refine Ld.h H ?_ | refine Ld.r ?_) | ((with_reducible show Ix ..); first | refine Ix.h ?_ | refine Ix.ha ?_) | (refine Al.hp H ?_; clear H; intro _ _ H _) | (refine St.h H ?_; clear H; intro _ H))
      ((conv => whnf); refine Cl.mk (join_c t0.kind (.mk kd o n nm cb A c l) (.mk kd2 o2 n2 nm2 cb2 A2 c2 l2) _ (X.tb.ext (H.base2 HB))) ?_)
      rintro _ w6 ⟨kd3, o3, A3, c3, rfl, hj, H'⟩
      rw [hj] at hR
      replace H := H.fr0 H' (.inl rfl)
      repeat' ((conv => whnf); first | (((with_reducible show Gd ..); first | (with_reducible first | refine Gd.t ?_ | refine Gd.f ?_ | (first | apply Gd.dec | apply Gd.beq | apply Gd.bne) <;> intro _ | refine Gd.not ?_) | refine Gd.t ?_ | refine Gd.f ?_ | apply Gd.var <;> intro _) <;> try (exfalso; omega)) | with_reducible refine Sq.mk ?_ | ((with_reducible show Ld1 ..); first | refine Ld1.h H ?_ | refine Ld1.rF ?_ | refine Ld1.r ?_) | ((with_reducible show Ld ..); first | refine Ld.h H ?_ | refine Ld.r ?_) | ((with_reducible show Ix ..); first | refine Ix.h ?_ | refine Ix.ha ?_) | (refine Al.hp H ?_; clear H; intro _ _ H _) | (refine St.h H ?_; clear H; intro _ H))
      replace H := H.sel [2, 3, 0, 1, 1, 1] rfl
      exact ⟨(f, .mk kd3 o3 0 [] [] A3 c3 [.mk kd o n nm cb A c l, .mk kd2 o2 n2 nm2 cb2 A2 c2 l2], ts2), ⟨rfl, rfl, rfl, rfl, rfl, trivial⟩, rfl, ⟨hR, Hp.swap (Hp.trsN kd3 o3 0 [] [] (Hp.swap (Hp.trsS H)))⟩, Nat.lt_succ_self f⟩
    · rintro ch w2 ⟨e, p, q, h1, rfl, H'⟩
      exact ⟨e, p, q, by rw [hR, h1]; rfl, rfl, Hp.pan H H' (.inl rfl)⟩
end
end Go.Proofs.YtfnjodpehomgfaaGreatDoor
namespace Go.Proofs.YtfnjodpehomgfaaGreatDoor
open Go Go.Sh Go.Tx
attribute [local irreducible] Blk Ext RdS
structure RY (src : Bs) (ws : List Tk) (A : Option Addr) (cw pr : Nat) (wb : World) : Prop where
  x : RX src ws A cw pr wb
  num : ∀ t ∈ ws, NumOk t
section
variable {src : Bs} {ws : List Tk} {A : Option Addr} {cw pr : Nat} {wb : World}
theorem RX.lt (X : RX src ws A cw pr wb) {j : Nat} {ts : List Tk} (h : ws.drop j = ts) : ts ≠ [] → j < 20000 := fun hne => by
  have := X.len
  apply Nat.lt_of_lt_of_le _ this
  apply Nat.lt_of_not_le
  intro hle
  exact hne (h.symm.trans (List.drop_of_length_le hle))
theorem RdQ.mem {s : RS} {w : World} (h : RdQ ws A cw pr s w) : ∀ t ∈ s.ts, t ∈ ws := fun t ht => by
  obtain ⟨k, h1, _⟩ := h
  rw [← h1] at ht
  exact List.mem_of_mem_drop ht
theorem RdQ.pls (X : RX src ws A cw pr wb) {s : RS} {w : World} (h : RdQ ws A cw pr s w) : Pls s.ts := fun t ht => X.pls t (h.mem t ht)
def OkRE (ws : List Tk) (A : Option Addr) (cw pr : Nat) {α : Type} (g : α → Ex) (R : Res α) (w : World) (v : Value) (w' : World) : Prop :=
  ∃ t s', v = ET.v t ∧ AtR R s' ∧ Vl R (fun a => ET.e t = g a) ∧ Hp (· = pr) w w' [trs [t], rq ws A cw pr s']
def OkRL (ws : List Tk) (A : Option Addr) (cw pr : Nat) {α : Type} (g : α → List Ex) (R : Res α) (w : World) (v : Value) (w' : World) : Prop :=
  ∃ B c l s', v = .slice B l.length c ∧ AtR R s' ∧ Vl R (fun a => ET.es l = g a) ∧ l.length ≤ 2000000 ∧ Hp (· = pr) w w' [qu ET.enc 6 74 B c l, trs l, rq ws A cw pr s']
def OkRB (ws : List Tk) (A : Option Addr) (cw pr : Nat) {α : Type} (g : α → List St) (R : Res α) (w : World) (v : Value) (w' : World) : Prop :=
  ∃ B c l s', v = .slice B l.length c ∧ AtR R s' ∧ Vl R (fun a => SM.es l = g a) ∧ Hp (· = pr) w w' [stl B c l, rq ws A cw pr s']
def OkRS (ws : List Tk) (A : Option Addr) (cw pr : Nat) {α : Type} (g : α → St) (R : Res α) (w : World) (v : Value) (w' : World) : Prop :=
  ∃ t s', v = SM.v t ∧ AtR R s' ∧ Vl R (fun a => SM.e t = g a) ∧ Hp (· = pr) w w' [sts [t], rq ws A cw pr s']
structure RCon (src : Bs) (ws : List Tk) (A : Option Addr) (cw pr : Nat) (wb : World) (F : PF) : Prop where
  expr : ∀ (lv d : Nat) (ts : List Tk) (w : World), lv ≤ 8 → d ≤ 41 → Ext wb w → RdQ ws A cw pr ⟨ts, none⟩ w → Gdw ts → F.expr lv d ts ≠ .out → Cl Tryz.prog 106 #[.pointer (some ⟨pr, 0, none⟩), .int .i64 ((lv + 1 : Nat) : Int), .int .i64 (d : Int)] w (OkRE ws A cw pr id (F.expr lv d ts) w) (fun _ _ => False)
  unary : ∀ (d : Nat) (ts : List Tk) (w : World), d ≤ 41 → Ext wb w → RdQ ws A cw pr ⟨ts, none⟩ w → Gdw ts → F.unary d ts ≠ .out → Cl Tryz.prog 126 #[.pointer (some ⟨pr, 0, none⟩), .int .i64 (d : Int)] w (OkRE ws A cw pr id (F.unary d ts) w) (fun _ _ => False)
  primary : ∀ (d : Nat) (ts : List Tk) (w : World), d ≤ 41 → Ext wb w → RdQ ws A cw pr ⟨ts, none⟩ w → Gdw ts → F.primary d ts ≠ .out → Cl Tryz.prog 141 #[.pointer (some ⟨pr, 0, none⟩), .int .i64 (d : Int)] w (OkRE ws A cw pr id (F.primary d ts) w) (fun _ _ => False)
  block : ∀ (d : Nat) (ts : List Tk) (w : World), d ≤ 41 → Ext wb w → RdQ ws A cw pr ⟨ts, none⟩ w → Gdw ts → F.block d ts ≠ .out → Cl Tryz.prog 54 #[.pointer (some ⟨pr, 0, none⟩), .int .i64 (d : Int)] w (OkRB ws A cw pr id (F.block d ts) w) (fun _ _ => False)
  choice : ∀ (d : Nat) (ts : List Tk) (w : World), d ≤ 41 → curK ts = k_if → Ext wb w → RdQ ws A cw pr ⟨ts, none⟩ w → Gdw ts → ((deepP d ts).bind fun _ ts => F.choice d ts) ≠ .out → Cl Tryz.prog 83 #[.pointer (some ⟨pr, 0, none⟩), .int .i64 (d : Int)] w (OkRS ws A cw pr id ((deepP d ts).bind fun _ ts => F.choice d ts) w) (fun _ _ => False)
variable (Y : RY src ws A cw pr wb)
include Y
theorem primaryD (d : Nat) (s : RS) (w : World) {e : Int} {p : Nat} (hwb : Ext wb w) (h : RdQ ws A cw pr s w) (ha : AtR (.err e p : Res Unit) s) : Cl Tryz.prog 141 #[.pointer (some ⟨pr, 0, none⟩), .int .i64 (d : Int)] w (OkRE ws A cw pr (fun _ => Ex.zero) (.err e p : Res Unit) w) (fun _ _ => False) := by
  have X := Y.x
  have HB := X.ok hwb
  have hne := ends_ne ha.ends
  refine calls_ex (args := [.pointer (some ⟨pr, 0, none⟩), .int .i64 (d : Int)]) T.ok Tryz.func141 rfl rfl rfl rfl ?_
  have H := Hp.start (S := (· = pr)) (rq_ok h) (fun k hk => hk)
  refine Sq.mk ?_
  ((conv => whnf); refine Al.hp H ?_; clear H; intro p4 _ H _)
  repeat' ((conv => whnf); first | (((with_reducible show Gd ..); first | (with_reducible first | refine Gd.t ?_ | refine Gd.f ?_ | (first | apply Gd.dec | apply Gd.beq | apply Gd.bne) <;> intro _ | refine Gd.not ?_) | refine Gd.t ?_ | refine Gd.f ?_ | apply Gd.var <;> intro _) <;> try (exfalso; omega)) | with_reducible refine Sq.mk ?_ | ((with_reducible show Ld1 ..); first | refine Ld1.h H ?_ | refine Ld1.rF ?_ | refine Ld1.r ?_) | ((with_reducible show Ld ..); first | refine Ld.h H ?_ | refine Ld.r ?_) | ((with_reducible show Ix ..); first | refine Ix.h ?_ | refine Ix.ha ?_) | (refine St.h H ?_; clear H; intro _ H))
  (((conv => whnf); refine Cl.mk (fine_r X s _ (H.atC 1 rfl)) ?_); rintro _ _ ⟨rfl, hx⟩; replace H := H.ext hx; clear hx)
  obtain ⟨ts, sp⟩ := s
  cases sp with
  | some x =>
    repeat' ((conv => whnf); first | (((with_reducible show Gd ..); first | (with_reducible first | refine Gd.t ?_ | refine Gd.f ?_ | (first | apply Gd.dec | apply Gd.beq | apply Gd.bne) <;> intro _ | refine Gd.not ?_) | refine Gd.t ?_ | refine Gd.f ?_ | apply Gd.var <;> intro _) <;> try (exfalso; omega)) | with_reducible refine Sq.mk ?_ | ((with_reducible show Ld1 ..); first | refine Ld1.h H ?_ | refine Ld1.rF ?_ | refine Ld1.r ?_) | ((with_reducible show Ld ..); first | refine Ld.h H ?_ | refine Ld.r ?_) | ((with_reducible show Ix ..); first | refine Ix.h ?_ | refine Ix.ha ?_) | (refine St.h H ?_; clear H; intro _ H))
    exact ⟨.mk 0 0 0 [] [] none 0 [], _, rfl, ha, Vl.err, Hp.trsZ 0 0 0 [] [] H.d0⟩
  | none =>
    repeat' ((conv => whnf); first | (((with_reducible show Gd ..); first | (with_reducible first | refine Gd.t ?_ | refine Gd.f ?_ | (first | apply Gd.dec | apply Gd.beq | apply Gd.bne) <;> intro _ | refine Gd.not ?_) | refine Gd.t ?_ | refine Gd.f ?_ | apply Gd.var <;> intro _) <;> try (exfalso; omega)) | with_reducible refine Sq.mk ?_ | ((with_reducible show Ld1 ..); first | refine Ld1.h H ?_ | refine Ld1.rF ?_ | refine Ld1.r ?_) | ((with_reducible show Ld ..); first | refine Ld.h H ?_ | refine Ld.r ?_) | ((with_reducible show Ix ..); first | refine Ix.h ?_ | refine Ix.ha ?_) | (refine St.h H ?_; clear H; intro _ H))
    (((conv => whnf); refine Cl.mk (next_r X ⟨ts, none⟩ _ (H.base2 HB) (H.atC 1 rfl) hne) ?_); rintro _ _ ⟨rfl, hx⟩; replace H := H.ext hx; clear hx)
    have hck : chk ts = .err e p := by
      rcases ha.at_ with h | ⟨_, h⟩
      · cases h
      · exact h
    have hk := (chk_err hck).1
    have hn : ∀ x ∈ [k_number, k_name, k_min, k_max, k_reduce, k_each, s_lp], ¬ rKind (curT ts) = x := by rcases hk with h | h <;> rw [h] <;> decide
    have n1 := hn k_number (by simp)
    have n2 := hn k_name (by simp)
    have n3 := hn k_min (by simp)
    have n4 := hn k_max (by simp)
    have n5 := hn k_reduce (by simp)
    have n6 := hn k_each (by simp)
    have n7 := hn s_lp (by simp)
    ((conv => whnf); refine Al.hp H ?_; clear H; intro p5 _ H _)
    repeat' ((conv => whnf); first | ((with_reducible show Gd (bs _ == _) _ _); first | refine Gd.sY (by assumption) ?_ | refine Gd.sk (by assumption) ?_ | refine Gd.sN (by assumption) ?_) | ((conv => whnf); first | (((with_reducible show Gd ..); first | (with_reducible first | refine Gd.t ?_ | refine Gd.f ?_ | (first | apply Gd.dec | apply Gd.beq | apply Gd.bne) <;> intro _ | refine Gd.not ?_) | refine Gd.t ?_ | refine Gd.f ?_ | apply Gd.var <;> intro _) <;> try (exfalso; omega)) | with_reducible refine Sq.mk ?_ | ((with_reducible show Ld1 ..); first | refine Ld1.h H ?_ | refine Ld1.rF ?_ | refine Ld1.r ?_) | ((with_reducible show Ld ..); first | refine Ld.h H ?_ | refine Ld.r ?_) | ((with_reducible show Ix ..); first | refine Ix.h ?_ | refine Ix.ha ?_) | (refine St.h H ?_; clear H; intro _ H)) | refine Sm.strix T.ok ?_)
    ((conv => whnf); refine Cl.mk (wrong_r X 141 ⟨ts, none⟩ _ (by decide) (H.base2 HB) (H.atC 2 rfl) hne) ?_)
    rintro _ w3 H'
    replace H := H.upd (c := rq ws A cw pr ⟨ts, none⟩) H' rfl (.inl rfl)
    clear H'
    repeat' ((conv => whnf); first | ((with_reducible show Gd (bs _ == _) _ _); first | refine Gd.sY (by assumption) ?_ | refine Gd.sk (by assumption) ?_ | refine Gd.sN (by assumption) ?_) | ((conv => whnf); first | (((with_reducible show Gd ..); first | (with_reducible first | refine Gd.t ?_ | refine Gd.f ?_ | (first | apply Gd.dec | apply Gd.beq | apply Gd.bne) <;> intro _ | refine Gd.not ?_) | refine Gd.t ?_ | refine Gd.f ?_ | apply Gd.var <;> intro _) <;> try (exfalso; omega)) | with_reducible refine Sq.mk ?_ | ((with_reducible show Ld1 ..); first | refine Ld1.h H ?_ | refine Ld1.rF ?_ | refine Ld1.r ?_) | ((with_reducible show Ld ..); first | refine Ld.h H ?_ | refine Ld.r ?_) | ((with_reducible show Ix ..); first | refine Ix.h ?_ | refine Ix.ha ?_) | (refine St.h H ?_; clear H; intro _ H)) | refine Sm.strix T.ok ?_)
    have hw : wrongR 141 ⟨ts, none⟩ = ⟨ts, some (e, p)⟩ := wrong_doom ha.at_
    exact ⟨.mk 0 0 0 [] [] none 0 [], _, rfl, ⟨by rw [wrong_ts]; exact ha.ends, .inl (by rw [hw])⟩, Vl.err, Hp.trsZ 0 0 0 [] [] H.d0.d0⟩
theorem unaryD (d : Nat) (s : RS) (w : World) {e : Int} {p : Nat} (hwb : Ext wb w) (h : RdQ ws A cw pr s w) (ha : AtR (.err e p : Res Unit) s) : Cl Tryz.prog 126 #[.pointer (some ⟨pr, 0, none⟩), .int .i64 (d : Int)] w (OkRE ws A cw pr (fun _ => Ex.zero) (.err e p : Res Unit) w) (fun _ _ => False) := by
  have X := Y.x
  have HB := X.ok hwb
  have hne := ends_ne ha.ends
  refine calls_ex (args := [.pointer (some ⟨pr, 0, none⟩), .int .i64 (d : Int)]) T.ok Tryz.func126 rfl rfl rfl rfl ?_
  have H := Hp.start (S := (· = pr)) (rq_ok h) (fun k hk => hk)
  refine Sq.mk ?_
  ((conv => whnf); refine Al.hp H ?_; clear H; intro p4 _ H _)
  repeat' ((conv => whnf); first | (((with_reducible show Gd ..); first | (with_reducible first | refine Gd.t ?_ | refine Gd.f ?_ | (first | apply Gd.dec | apply Gd.beq | apply Gd.bne) <;> intro _ | refine Gd.not ?_) | refine Gd.t ?_ | refine Gd.f ?_ | apply Gd.var <;> intro _) <;> try (exfalso; omega)) | with_reducible refine Sq.mk ?_ | ((with_reducible show Ld1 ..); first | refine Ld1.h H ?_ | refine Ld1.rF ?_ | refine Ld1.r ?_) | ((with_reducible show Ld ..); first | refine Ld.h H ?_ | refine Ld.r ?_) | ((with_reducible show Ix ..); first | refine Ix.h ?_ | refine Ix.ha ?_) | (refine St.h H ?_; clear H; intro _ H))
  (((conv => whnf); refine Cl.mk (is_r X s_minus s _ (H.base2 HB) (H.atC 1 rfl) hne) ?_); rintro _ _ ⟨rfl, hx⟩; replace H := H.ext hx; clear hx)
  rw [is_err ha (by decide) (by decide)]
  repeat' ((conv => whnf); first | (((with_reducible show Gd ..); first | (with_reducible first | refine Gd.t ?_ | refine Gd.f ?_ | (first | apply Gd.dec | apply Gd.beq | apply Gd.bne) <;> intro _ | refine Gd.not ?_) | refine Gd.t ?_ | refine Gd.f ?_ | apply Gd.var <;> intro _) <;> try (exfalso; omega)) | with_reducible refine Sq.mk ?_ | ((with_reducible show Ld1 ..); first | refine Ld1.h H ?_ | refine Ld1.rF ?_ | refine Ld1.r ?_) | ((with_reducible show Ld ..); first | refine Ld.h H ?_ | refine Ld.r ?_) | ((with_reducible show Ix ..); first | refine Ix.h ?_ | refine Ix.ha ?_) | (refine St.h H ?_; clear H; intro _ H))
  (((conv => whnf); refine Cl.mk (is_r X s_bang s _ (H.base2 HB) (H.atC 1 rfl) hne) ?_); rintro _ _ ⟨rfl, hx⟩; replace H := H.ext hx; clear hx)
  rw [is_err ha (by decide) (by decide)]
  repeat' ((conv => whnf); first | (((with_reducible show Gd ..); first | (with_reducible first | refine Gd.t ?_ | refine Gd.f ?_ | (first | apply Gd.dec | apply Gd.beq | apply Gd.bne) <;> intro _ | refine Gd.not ?_) | refine Gd.t ?_ | refine Gd.f ?_ | apply Gd.var <;> intro _) <;> try (exfalso; omega)) | with_reducible refine Sq.mk ?_ | ((with_reducible show Ld1 ..); first | refine Ld1.h H ?_ | refine Ld1.rF ?_ | refine Ld1.r ?_) | ((with_reducible show Ld ..); first | refine Ld.h H ?_ | refine Ld.r ?_) | ((with_reducible show Ix ..); first | refine Ix.h ?_ | refine Ix.ha ?_) | (refine St.h H ?_; clear H; intro _ H))
  ((conv => whnf); refine Cl.mk (primaryD Y d s _ (H.base2 HB) (H.atC 1 rfl) ha) ?_)
  rintro _ w3 ⟨⟨kd, o, n, nm, cb, B, c, l⟩, s', rfl, ha', _, H'⟩
  replace H := H.updn (c := rq ws A cw pr s) (Hp.swap H') rfl (.inl rfl) (.inl rfl)
  clear H'
  repeat' ((conv => whnf); first | (((with_reducible show Gd ..); first | (with_reducible first | refine Gd.t ?_ | refine Gd.f ?_ | (first | apply Gd.dec | apply Gd.beq | apply Gd.bne) <;> intro _ | refine Gd.not ?_) | refine Gd.t ?_ | refine Gd.f ?_ | apply Gd.var <;> intro _) <;> try (exfalso; omega)) | with_reducible refine Sq.mk ?_ | ((with_reducible show Ld1 ..); first | refine Ld1.h H ?_ | refine Ld1.rF ?_ | refine Ld1.r ?_) | ((with_reducible show Ld ..); first | refine Ld.h H ?_ | refine Ld.r ?_) | ((with_reducible show Ix ..); first | refine Ix.h ?_ | refine Ix.ha ?_) | (refine St.h H ?_; clear H; intro _ H))
  exact ⟨.mk kd o n nm cb B c l, s', rfl, ha', Vl.err, H.sel [0, 1] rfl⟩
theorem exprD (d : Nat) {e : Int} {p : Nat} (hd : d ≤ 1000000) : ∀ (m lv : Nat) (s : RS) (w : World), lv + m = 8 → Ext wb w → RdQ ws A cw pr s w → AtR (.err e p : Res Unit) s → Cl Tryz.prog 106 #[.pointer (some ⟨pr, 0, none⟩), .int .i64 ((lv + 1 : Nat) : Int), .int .i64 (d : Int)] w (OkRE ws A cw pr (fun _ => Ex.zero) (.err e p : Res Unit) w) (fun _ _ => False)
  | 0, lv, s, w, hm, hwb, h, ha => by
    have X := Y.x
    have HB := X.ok hwb
    refine calls_ex (args := [.pointer (some ⟨pr, 0, none⟩), .int .i64 ((lv + 1 : Nat) : Int), .int .i64 (d : Int)]) T.ok Tryz.func106 rfl rfl rfl rfl ?_
    have H := Hp.start (S := (· = pr)) (rq_ok h) (fun k hk => hk)
    refine Sq.mk ?_
    ((conv => whnf); refine Al.hp H ?_; clear H; intro p4 _ H _)
    repeat' ((conv => whnf); first | (((with_reducible show Gd ..); first | (with_reducible first | refine Gd.t ?_ | refine Gd.f ?_ | (first | apply Gd.dec | apply Gd.beq | apply Gd.bne) <;> intro _ | refine Gd.not ?_) | refine Gd.t ?_ | refine Gd.f ?_ | apply Gd.var <;> intro _) <;> try (exfalso; omega)) | with_reducible refine Sq.mk ?_ | ((with_reducible show Ld1 ..); first | refine Ld1.h H ?_ | refine Ld1.rF ?_ | refine Ld1.r ?_) | ((with_reducible show Ld ..); first | refine Ld.h H ?_ | refine Ld.r ?_) | ((with_reducible show Ix ..); first | refine Ix.h ?_ | refine Ix.ha ?_) | (refine St.h H ?_; clear H; intro _ H))
    all_goals first | (exfalso; omega) | skip
    ((conv => whnf); refine Cl.mk (unaryD Y d s _ (H.base2 HB) (H.atC 1 rfl) ha) ?_)
    rintro _ w3 ⟨⟨kd, o, n, nm, cb, B, c, l⟩, s', rfl, ha', _, H'⟩
    replace H := H.updn (c := rq ws A cw pr s) (Hp.swap H') rfl (.inl rfl) (.inl rfl)
    clear H'
    repeat' ((conv => whnf); first | (((with_reducible show Gd ..); first | (with_reducible first | refine Gd.t ?_ | refine Gd.f ?_ | (first | apply Gd.dec | apply Gd.beq | apply Gd.bne) <;> intro _ | refine Gd.not ?_) | refine Gd.t ?_ | refine Gd.f ?_ | apply Gd.var <;> intro _) <;> try (exfalso; omega)) | with_reducible refine Sq.mk ?_ | ((with_reducible show Ld1 ..); first | refine Ld1.h H ?_ | refine Ld1.rF ?_ | refine Ld1.r ?_) | ((with_reducible show Ld ..); first | refine Ld.h H ?_ | refine Ld.r ?_) | ((with_reducible show Ix ..); first | refine Ix.h ?_ | refine Ix.ha ?_) | (refine St.h H ?_; clear H; intro _ H))
    exact ⟨.mk kd o n nm cb B c l, s', rfl, ha', Vl.err, H.sel [0, 1] rfl⟩
  | m + 1, lv, s, w, hm, hwb, h, ha => by
    have X := Y.x
    have HB := X.ok hwb
    have ih := fun s w => exprD (e := e) (p := p) d hd m (lv + 1) s w (by omega)
    have hw1 : IntKind.i64.wrap (((lv + 1 : Nat) : Int) + 1) = ((lv + 1 + 1 : Nat) : Int) := w64 rfl (by omega) (by omega)
    rw [← hw1] at ih
    refine calls_ex (args := [.pointer (some ⟨pr, 0, none⟩), .int .i64 ((lv + 1 : Nat) : Int), .int .i64 (d : Int)]) T.ok Tryz.func106 rfl rfl rfl rfl ?_
    have H := Hp.start (S := (· = pr)) (rq_ok h) (fun k hk => hk)
    refine Sq.mk ?_
    ((conv => whnf); refine Al.hp H ?_; clear H; intro p6 _ H _)
    repeat' ((conv => whnf); first | (((with_reducible show Gd ..); first | (with_reducible first | refine Gd.t ?_ | refine Gd.f ?_ | (first | apply Gd.dec | apply Gd.beq | apply Gd.bne) <;> intro _ | refine Gd.not ?_) | refine Gd.t ?_ | refine Gd.f ?_ | apply Gd.var <;> intro _) <;> try (exfalso; omega)) | with_reducible refine Sq.mk ?_ | ((with_reducible show Ld1 ..); first | refine Ld1.h H ?_ | refine Ld1.rF ?_ | refine Ld1.r ?_) | ((with_reducible show Ld ..); first | refine Ld.h H ?_ | refine Ld.r ?_) | ((with_reducible show Ix ..); first | refine Ix.h ?_ | refine Ix.ha ?_) | (refine St.h H ?_; clear H; intro _ H))
    all_goals first | (exfalso; omega) | skip
    ((conv => whnf); refine Cl.mk (ih s _ (H.base2 HB) (H.atC 1 rfl) ha) ?_)
    rintro _ w3 ⟨⟨kd, o, n, nm, cb, B, c, l⟩, s', rfl, ha', _, H'⟩
    replace H := H.updn (c := rq ws A cw pr s) (Hp.swap H') rfl (.inl rfl) (.inl rfl)
    clear H'
    ((conv => whnf); refine Al.hp H ?_; clear H; intro p7 _ H _)
    repeat' ((conv => whnf); first | (((with_reducible show Gd ..); first | (with_reducible first | refine Gd.t ?_ | refine Gd.f ?_ | (first | apply Gd.dec | apply Gd.beq | apply Gd.bne) <;> intro _ | refine Gd.not ?_) | refine Gd.t ?_ | refine Gd.f ?_ | apply Gd.var <;> intro _) <;> try (exfalso; omega)) | with_reducible refine Sq.mk ?_ | ((with_reducible show Ld1 ..); first | refine Ld1.h H ?_ | refine Ld1.rF ?_ | refine Ld1.r ?_) | ((with_reducible show Ld ..); first | refine Ld.h H ?_ | refine Ld.r ?_) | ((with_reducible show Ix ..); first | refine Ix.h ?_ | refine Ix.ha ?_) | (refine St.h H ?_; clear H; intro _ H))
    refine Lp.g0 T.ok (σ := Unit) (fun q => [(7, .pointer (some ⟨p7, 0, none⟩)), (0, .pointer (some ⟨pr, 0, none⟩)), (1, .int .i64 ((lv + 1 : Nat) : Int)), (6, .pointer (some ⟨p6, 0, none⟩))])
      (fun q w' => Hp (· = pr) w w' [bk p7 74 (ET.enc (.mk kd o n nm cb B c l)), trs [.mk kd o n nm cb B c l], bk p6 74 T.t74.zero.cells.toList, rq ws A cw pr s']) (fun q _ => 0) () rfl ⟨rfl, rfl, rfl, rfl, trivial⟩ H ?_
    clear H
    rintro _ w5 H
    repeat' ((conv => whnf); first | (((with_reducible show Gd ..); first | (with_reducible first | refine Gd.t ?_ | refine Gd.f ?_ | (first | apply Gd.dec | apply Gd.beq | apply Gd.bne) <;> intro _ | refine Gd.not ?_) | refine Gd.t ?_ | refine Gd.f ?_ | apply Gd.var <;> intro _) <;> try (exfalso; omega)) | with_reducible refine Sq.mk ?_ | ((with_reducible show Ld1 ..); first | refine Ld1.h H ?_ | refine Ld1.rF ?_ | refine Ld1.r ?_) | ((with_reducible show Ld ..); first | refine Ld.h H ?_ | refine Ld.r ?_) | ((with_reducible show Ix ..); first | refine Ix.h ?_ | refine Ix.ha ?_) | (refine St.h H ?_; clear H; intro _ H))
    (((conv => whnf); refine Cl.mk (fine_r X s' _ (H.atC 3 rfl)) ?_); rintro _ _ ⟨rfl, hx⟩; replace H := H.ext hx; clear hx)
    obtain ⟨ts, sp⟩ := s'
    cases sp with
    | some x =>
      repeat' ((conv => whnf); first | (((with_reducible show Gd ..); first | (with_reducible first | refine Gd.t ?_ | refine Gd.f ?_ | (first | apply Gd.dec | apply Gd.beq | apply Gd.bne) <;> intro _ | refine Gd.not ?_) | refine Gd.t ?_ | refine Gd.f ?_ | apply Gd.var <;> intro _) <;> try (exfalso; omega)) | with_reducible refine Sq.mk ?_ | ((with_reducible show Ld1 ..); first | refine Ld1.h H ?_ | refine Ld1.rF ?_ | refine Ld1.r ?_) | ((with_reducible show Ld ..); first | refine Ld.h H ?_ | refine Ld.r ?_) | ((with_reducible show Ix ..); first | refine Ix.h ?_ | refine Ix.ha ?_) | (refine St.h H ?_; clear H; intro _ H))
      exact ⟨.mk kd o n nm cb B c l, _, rfl, ha', Vl.err, H.sel [1, 2] rfl⟩
    | none =>
      repeat' ((conv => whnf); first | (((with_reducible show Gd ..); first | (with_reducible first | refine Gd.t ?_ | refine Gd.f ?_ | (first | apply Gd.dec | apply Gd.beq | apply Gd.bne) <;> intro _ | refine Gd.not ?_) | refine Gd.t ?_ | refine Gd.f ?_ | apply Gd.var <;> intro _) <;> try (exfalso; omega)) | with_reducible refine Sq.mk ?_ | ((with_reducible show Ld1 ..); first | refine Ld1.h H ?_ | refine Ld1.rF ?_ | refine Ld1.r ?_) | ((with_reducible show Ld ..); first | refine Ld.h H ?_ | refine Ld.r ?_) | ((with_reducible show Ix ..); first | refine Ix.h ?_ | refine Ix.ha ?_) | (refine St.h H ?_; clear H; intro _ H))
      (((conv => whnf); refine Cl.mk (next_r X ⟨ts, none⟩ _ (H.base2 HB) (H.atC 3 rfl) (ends_ne ha'.ends)) ?_); rintro _ _ ⟨rfl, hx⟩; replace H := H.ext hx; clear hx)
      repeat' ((conv => whnf); first | (((with_reducible show Gd ..); first | (with_reducible first | refine Gd.t ?_ | refine Gd.f ?_ | (first | apply Gd.dec | apply Gd.beq | apply Gd.bne) <;> intro _ | refine Gd.not ?_) | refine Gd.t ?_ | refine Gd.f ?_ | apply Gd.var <;> intro _) <;> try (exfalso; omega)) | with_reducible refine Sq.mk ?_ | ((with_reducible show Ld1 ..); first | refine Ld1.h H ?_ | refine Ld1.rF ?_ | refine Ld1.r ?_) | ((with_reducible show Ld ..); first | refine Ld.h H ?_ | refine Ld.r ?_) | ((with_reducible show Ix ..); first | refine Ix.h ?_ | refine Ix.ha ?_) | (refine St.h H ?_; clear H; intro _ H))
      (((conv => whnf); refine Cl.mk (Level_r (rKind (curT ts)) _) ?_); rintro _ _ ⟨rfl, hx⟩; replace H := H.ext hx; clear hx)
      have hck : chk ts = .err e p := by
        rcases ha'.at_ with h | ⟨_, h⟩
        · cases h
        · exact h
      have hlv : levelN (rKind (curT ts)) = 0 := by rcases (chk_err hck).1 with h | h <;> rw [h] <;> rfl
      rw [hlv]
      repeat' ((conv => whnf); first | (((with_reducible show Gd ..); first | (with_reducible first | refine Gd.t ?_ | refine Gd.f ?_ | (first | apply Gd.dec | apply Gd.beq | apply Gd.bne) <;> intro _ | refine Gd.not ?_) | refine Gd.t ?_ | refine Gd.f ?_ | apply Gd.var <;> intro _) <;> try (exfalso; omega)) | with_reducible refine Sq.mk ?_ | ((with_reducible show Ld1 ..); first | refine Ld1.h H ?_ | refine Ld1.rF ?_ | refine Ld1.r ?_) | ((with_reducible show Ld ..); first | refine Ld.h H ?_ | refine Ld.r ?_) | ((with_reducible show Ix ..); first | refine Ix.h ?_ | refine Ix.ha ?_) | (refine St.h H ?_; clear H; intro _ H))
      all_goals first | (exfalso; omega) | skip
      exact ⟨.mk kd o n nm cb B c l, _, rfl, ha', Vl.err, H.sel [1, 2] rfl⟩
end
end Go.Proofs.YtfnjodpehomgfaaGreatDoor
namespace Go.Proofs.YtfnjodpehomgfaaGreatDoor
open Go Go.Sh Go.Tx
attribute [local irreducible] Blk Ext RdS
section
variable {src : Bs} {ws : List Tk} {A : Option Addr} {cw pr : Nat} {wb : World}
theorem OkRE.err {α β : Type} {g : α → Ex} {g' : β → Ex} {e : Int} {p : Nat} {w w' : World} {v : Value} (h : OkRE ws A cw pr g (.err e p : Res α) w v w') : OkRE ws A cw pr g' (.err e p : Res β) w v w' := by
  obtain ⟨t, s', h1, h2, h3, h4⟩ := h
  exact ⟨t, s', h1, h2.toErr, Vl.err, h4⟩
theorem OkRE.ok_and {α : Type} {a : α} {ts : List Tk} {f : α → List Tk → Res Ex} {w w' : World} {v : Value} (h : OkRE ws A cw pr id (f a ts) w v w') : OkRE ws A cw pr Prod.snd (Res.and (.ok a ts) f) w v w' := by
  obtain ⟨t, s', h1, h2, h3, h4⟩ := h
  exact ⟨t, s', h1, h2.ok_and, Vl.ok_and h3, h4⟩
variable (Y : RY src ws A cw pr wb) {F : PF} (C : RCon src ws A cw pr wb F)
include Y C
theorem exprR {α : Type} (R0 : Res α) (lv d : Nat) (s : RS) (w : World) (hlv : lv ≤ 8) (hd : d ≤ 41) (hwb : Ext wb w) (h : RdQ ws A cw pr s w) (ha : AtR R0 s) (hne : (R0.and fun _ ts => F.expr lv d ts) ≠ .out) :
    Cl Tryz.prog 106 #[.pointer (some ⟨pr, 0, none⟩), .int .i64 ((lv + 1 : Nat) : Int), .int .i64 (d : Int)] w (OkRE ws A cw pr Prod.snd (R0.and fun _ ts => F.expr lv d ts) w) (fun _ _ => False) := by
  cases R0 with
  | out => exact absurd rfl hne
  | err e p => exact Cl.mkX (exprD Y d (by omega) (8 - lv) lv s w (by omega) hwb h ha.toErr) (fun v w' q => OkRE.err q) (fun _ _ h => h)
  | ok a ts =>
    obtain ⟨rfl, hg⟩ := ha.gd
    exact Cl.mkX (C.expr lv d ts w hlv hd hwb h hg (Res.and_ok_out (f := fun _ ts => F.expr lv d ts) hne)) (fun v w' q => OkRE.ok_and (f := fun _ ts => F.expr lv d ts) q) (fun _ _ h => h)
theorem unaryR {α : Type} (R0 : Res α) (d : Nat) (s : RS) (w : World) (hd : d ≤ 41) (hwb : Ext wb w) (h : RdQ ws A cw pr s w) (ha : AtR R0 s) (hne : (R0.and fun _ ts => F.unary d ts) ≠ .out) :
    Cl Tryz.prog 126 #[.pointer (some ⟨pr, 0, none⟩), .int .i64 (d : Int)] w (OkRE ws A cw pr Prod.snd (R0.and fun _ ts => F.unary d ts) w) (fun _ _ => False) := by
  cases R0 with
  | out => exact absurd rfl hne
  | err e p => exact Cl.mkX (unaryD Y d s w hwb h ha.toErr) (fun v w' q => OkRE.err q) (fun _ _ h => h)
  | ok a ts =>
    obtain ⟨rfl, hg⟩ := ha.gd
    exact Cl.mkX (C.unary d ts w hd hwb h hg (Res.and_ok_out (f := fun _ ts => F.unary d ts) hne)) (fun v w' q => OkRE.ok_and (f := fun _ ts => F.unary d ts) q) (fun _ _ h => h)
set_option maxHeartbeats 4000000 in
theorem expr_r (lv d : Nat) (ts : List Tk) (w : World) (hlv : lv ≤ 8) (hd : d ≤ 41) (hwb : Ext wb w) (h : RdQ ws A cw pr ⟨ts, none⟩ w) (hg : Gdw ts) (hne : exprP F lv d ts ≠ .out) :
    Cl Tryz.prog 106 #[.pointer (some ⟨pr, 0, none⟩), .int .i64 ((lv + 1 : Nat) : Int), .int .i64 (d : Int)] w (OkRE ws A cw pr id (exprP F lv d ts) w) (fun _ _ => False) := by
  have X := Y.x
  have HB := X.ok hwb
  refine calls_ex (args := [.pointer (some ⟨pr, 0, none⟩), .int .i64 ((lv + 1 : Nat) : Int), .int .i64 (d : Int)]) T.ok Tryz.func106 rfl rfl rfl rfl ?_
  have H := Hp.start (S := (· = pr)) (rq_ok h) (fun k hk => hk)
  refine Sq.mk ?_
  ((conv => whnf); refine Al.hp H ?_; clear H; intro p6 _ H _)
  by_cases h8 : lv = 8
  · have hR : exprP F lv d ts = F.unary d ts := by unfold exprP; rw [if_pos h8]
    rw [hR] at hne ⊢
    repeat' ((conv => whnf); first | (((with_reducible show Gd ..); first | (with_reducible first | refine Gd.t ?_ | refine Gd.f ?_ | (first | apply Gd.dec | apply Gd.beq | apply Gd.bne) <;> intro _ | refine Gd.not ?_) | refine Gd.t ?_ | refine Gd.f ?_ | apply Gd.var <;> intro _) <;> try (exfalso; omega)) | with_reducible refine Sq.mk ?_ | ((with_reducible show Ld1 ..); first | refine Ld1.h H ?_ | refine Ld1.rF ?_ | refine Ld1.r ?_) | ((with_reducible show Ld ..); first | refine Ld.h H ?_ | refine Ld.r ?_) | ((with_reducible show Ix ..); first | refine Ix.h ?_ | refine Ix.ha ?_) | (refine St.h H ?_; clear H; intro _ H))
    all_goals first | (exfalso; omega) | skip
    ((conv => whnf); refine Cl.mk (C.unary d ts _ hd (H.base2 HB) (H.atC 1 rfl) hg hne) ?_)
    rintro _ w3 ⟨⟨kd, o, n, nm, cb, B, c, l⟩, s', rfl, ha', hv, H'⟩
    replace H := H.updn (c := rq ws A cw pr ⟨ts, none⟩) (Hp.swap H') rfl (.inl rfl) (.inl rfl)
    clear H'
    repeat' ((conv => whnf); first | (((with_reducible show Gd ..); first | (with_reducible first | refine Gd.t ?_ | refine Gd.f ?_ | (first | apply Gd.dec | apply Gd.beq | apply Gd.bne) <;> intro _ | refine Gd.not ?_) | refine Gd.t ?_ | refine Gd.f ?_ | apply Gd.var <;> intro _) <;> try (exfalso; omega)) | with_reducible refine Sq.mk ?_ | ((with_reducible show Ld1 ..); first | refine Ld1.h H ?_ | refine Ld1.rF ?_ | refine Ld1.r ?_) | ((with_reducible show Ld ..); first | refine Ld.h H ?_ | refine Ld.r ?_) | ((with_reducible show Ix ..); first | refine Ix.h ?_ | refine Ix.ha ?_) | (refine St.h H ?_; clear H; intro _ H))
    exact ⟨.mk kd o n nm cb B c l, s', rfl, ha', hv, H.sel [0, 1] rfl⟩
  obtain ⟨R, hR⟩ : ∃ R, R = exprP F lv d ts := ⟨_, rfl⟩
  rw [← hR] at hne ⊢
  unfold exprP at hR
  rw [if_neg h8] at hR
  have hw1 : IntKind.i64.wrap (((lv + 1 : Nat) : Int) + 1) = ((lv + 1 + 1 : Nat) : Int) := w64 rfl (by omega) (by omega)
  have hex := fun ts w => C.expr (lv + 1) d ts w (by omega) hd
  rw [← hw1] at hex
  repeat' ((conv => whnf); first | (((with_reducible show Gd ..); first | (with_reducible first | refine Gd.t ?_ | refine Gd.f ?_ | (first | apply Gd.dec | apply Gd.beq | apply Gd.bne) <;> intro _ | refine Gd.not ?_) | refine Gd.t ?_ | refine Gd.f ?_ | apply Gd.var <;> intro _) <;> try (exfalso; omega)) | with_reducible refine Sq.mk ?_ | ((with_reducible show Ld1 ..); first | refine Ld1.h H ?_ | refine Ld1.rF ?_ | refine Ld1.r ?_) | ((with_reducible show Ld ..); first | refine Ld.h H ?_ | refine Ld.r ?_) | ((with_reducible show Ix ..); first | refine Ix.h ?_ | refine Ix.ha ?_) | (refine St.h H ?_; clear H; intro _ H))
  all_goals first | (exfalso; omega) | skip
  ((conv => whnf); refine Cl.mk (hex ts _ (H.base2 HB) (H.atC 1 rfl) hg (Res.bind_out (by rw [← hR]; exact hne))) ?_)
  rintro _ w3 ⟨⟨kd, o, n, nm, cb, B, c, l⟩, s', rfl, ha', hv, H'⟩
  replace H := H.updn (c := rq ws A cw pr ⟨ts, none⟩) (Hp.swap H') rfl (.inl rfl) (.inl rfl)
  clear H'
  ((conv => whnf); refine Al.hp H ?_; clear H; intro p7 _ H _)
  repeat' ((conv => whnf); first | (((with_reducible show Gd ..); first | (with_reducible first | refine Gd.t ?_ | refine Gd.f ?_ | (first | apply Gd.dec | apply Gd.beq | apply Gd.bne) <;> intro _ | refine Gd.not ?_) | refine Gd.t ?_ | refine Gd.f ?_ | apply Gd.var <;> intro _) <;> try (exfalso; omega)) | with_reducible refine Sq.mk ?_ | ((with_reducible show Ld1 ..); first | refine Ld1.h H ?_ | refine Ld1.rF ?_ | refine Ld1.r ?_) | ((with_reducible show Ld ..); first | refine Ld.h H ?_ | refine Ld.r ?_) | ((with_reducible show Ix ..); first | refine Ix.h ?_ | refine Ix.ha ?_) | (refine St.h H ?_; clear H; intro _ H))
  have hst : ∃ n, R = (F.expr (lv + 1) d ts).bind fun e ts1 => loopE F lv d n e ts1 := by
    cases hx : F.expr (lv + 1) d ts with
    | out => rw [hx] at hR; exact ⟨0, hR⟩
    | err e p => rw [hx] at hR; exact ⟨0, hR⟩
    | ok e ts1 => rw [hx] at hR; exact ⟨ts1.length + 1, hR⟩
  obtain ⟨n0, hR0⟩ := hst
  refine Lp.g0 T.ok (σ := Res Ex × Nat × ET × RS) (fun q => [(7, .pointer (some ⟨p7, 0, none⟩)), (0, .pointer (some ⟨pr, 0, none⟩)), (1, .int .i64 ((lv + 1 : Nat) : Int)), (2, .int .i64 (d : Int)), (6, .pointer (some ⟨p6, 0, none⟩))])
    (fun q w' => R = q.1.bind (fun e ts => loopE F lv d q.2.1 e ts) ∧ AtR q.1 q.2.2.2 ∧ Vl q.1 (fun a => ET.e q.2.2.1 = a) ∧ Hp (· = pr) w w' [bk p7 74 (ET.enc q.2.2.1), trs [q.2.2.1], bk p6 74 T.t74.zero.cells.toList, rq ws A cw pr q.2.2.2]) (fun q _ => q.2.1) (F.expr (lv + 1) d ts, n0, .mk kd o n nm cb B c l, s') rfl ⟨rfl, rfl, rfl, rfl, rfl, trivial⟩ ⟨hR0, ha', hv, H⟩ ?_
  clear H hR hR0 ha' hv
  rintro ⟨Rc, n, ⟨kd, o, nn, nm, cb, B, c, l⟩, ⟨ts, sp⟩⟩ w5 ⟨hR, ha, hv, H⟩
  simp only at hR ha hv H ⊢
  have hout : (∀ e ts, Rc = .ok e ts → standsB lv (curK ts) = false) → AtR R ⟨ts, sp⟩ ∧ Vl R (fun a => ET.e (.mk kd o nn nm cb B c l) = id a) := fun hno => by
    cases Rc with
    | out => exact absurd hR hne
    | err e p => rw [hR]; exact ⟨ha.toErr, Vl.err⟩
    | ok e ts1 =>
      cases n with
      | zero => exact absurd hR hne
      | succ n =>
        have : R = .ok e ts1 := by
          rw [hR]
          show loopE F lv d (n + 1) e ts1 = _
          unfold loopE
          rw [hno e ts1 rfl, if_neg (by simp)]
        rw [this]
        exact ⟨ha, hv⟩
  repeat' ((conv => whnf); first | (((with_reducible show Gd ..); first | (with_reducible first | refine Gd.t ?_ | refine Gd.f ?_ | (first | apply Gd.dec | apply Gd.beq | apply Gd.bne) <;> intro _ | refine Gd.not ?_) | refine Gd.t ?_ | refine Gd.f ?_ | apply Gd.var <;> intro _) <;> try (exfalso; omega)) | with_reducible refine Sq.mk ?_ | ((with_reducible show Ld1 ..); first | refine Ld1.h H ?_ | refine Ld1.rF ?_ | refine Ld1.r ?_) | ((with_reducible show Ld ..); first | refine Ld.h H ?_ | refine Ld.r ?_) | ((with_reducible show Ix ..); first | refine Ix.h ?_ | refine Ix.ha ?_) | (refine St.h H ?_; clear H; intro _ H))
  (((conv => whnf); refine Cl.mk (fine_r X ⟨ts, sp⟩ _ (H.atC 3 rfl)) ?_); rintro _ _ ⟨rfl, hx⟩; replace H := H.ext hx; clear hx)
  cases sp with
  | some x =>
    obtain ⟨g1, g2⟩ := hout (fun e ts1 h => by
      rw [h] at ha
      have := ha.gd.1
      cases this)
    repeat' ((conv => whnf); first | (((with_reducible show Gd ..); first | (with_reducible first | refine Gd.t ?_ | refine Gd.f ?_ | (first | apply Gd.dec | apply Gd.beq | apply Gd.bne) <;> intro _ | refine Gd.not ?_) | refine Gd.t ?_ | refine Gd.f ?_ | apply Gd.var <;> intro _) <;> try (exfalso; omega)) | with_reducible refine Sq.mk ?_ | ((with_reducible show Ld1 ..); first | refine Ld1.h H ?_ | refine Ld1.rF ?_ | refine Ld1.r ?_) | ((with_reducible show Ld ..); first | refine Ld.h H ?_ | refine Ld.r ?_) | ((with_reducible show Ix ..); first | refine Ix.h ?_ | refine Ix.ha ?_) | (refine St.h H ?_; clear H; intro _ H))
    exact ⟨.mk kd o nn nm cb B c l, _, rfl, g1, g2, H.sel [1, 2] rfl⟩
  | none =>
    repeat' ((conv => whnf); first | (((with_reducible show Gd ..); first | (with_reducible first | refine Gd.t ?_ | refine Gd.f ?_ | (first | apply Gd.dec | apply Gd.beq | apply Gd.bne) <;> intro _ | refine Gd.not ?_) | refine Gd.t ?_ | refine Gd.f ?_ | apply Gd.var <;> intro _) <;> try (exfalso; omega)) | with_reducible refine Sq.mk ?_ | ((with_reducible show Ld1 ..); first | refine Ld1.h H ?_ | refine Ld1.rF ?_ | refine Ld1.r ?_) | ((with_reducible show Ld ..); first | refine Ld.h H ?_ | refine Ld.r ?_) | ((with_reducible show Ix ..); first | refine Ix.h ?_ | refine Ix.ha ?_) | (refine St.h H ?_; clear H; intro _ H))
    (((conv => whnf); refine Cl.mk (next_r X ⟨ts, none⟩ _ (H.base2 HB) (H.atC 3 rfl) (ends_ne ha.ends)) ?_); rintro _ _ ⟨rfl, hx⟩; replace H := H.ext hx; clear hx)
    repeat' ((conv => whnf); first | (((with_reducible show Gd ..); first | (with_reducible first | refine Gd.t ?_ | refine Gd.f ?_ | (first | apply Gd.dec | apply Gd.beq | apply Gd.bne) <;> intro _ | refine Gd.not ?_) | refine Gd.t ?_ | refine Gd.f ?_ | apply Gd.var <;> intro _) <;> try (exfalso; omega)) | with_reducible refine Sq.mk ?_ | ((with_reducible show Ld1 ..); first | refine Ld1.h H ?_ | refine Ld1.rF ?_ | refine Ld1.r ?_) | ((with_reducible show Ld ..); first | refine Ld.h H ?_ | refine Ld.r ?_) | ((with_reducible show Ix ..); first | refine Ix.h ?_ | refine Ix.ha ?_) | (refine St.h H ?_; clear H; intro _ H))
    (((conv => whnf); refine Cl.mk (Level_r (rKind (curT ts)) _) ?_); rintro _ _ ⟨rfl, hx⟩; replace H := H.ext hx; clear hx)
    by_cases hL : levelN (rKind (curT ts)) = lv + 1
    case neg =>
      obtain ⟨g1, g2⟩ := hout (fun e ts1 h => by
        rw [h] at ha
        obtain ⟨h1, h2⟩ := ha.gd
        obtain rfl : ts = ts1 := by cases h1; rfl
        rw [stands_level (by omega), ← (chk_ok h2.ok).1]
        exact decide_eq_false hL)
      repeat' ((conv => whnf); first | (((with_reducible show Gd ..); first | (with_reducible first | refine Gd.t ?_ | refine Gd.f ?_ | (first | apply Gd.dec | apply Gd.beq | apply Gd.bne) <;> intro _ | refine Gd.not ?_) | refine Gd.t ?_ | refine Gd.f ?_ | apply Gd.var <;> intro _) <;> try (exfalso; omega)) | with_reducible refine Sq.mk ?_ | ((with_reducible show Ld1 ..); first | refine Ld1.h H ?_ | refine Ld1.rF ?_ | refine Ld1.r ?_) | ((with_reducible show Ld ..); first | refine Ld.h H ?_ | refine Ld.r ?_) | ((with_reducible show Ix ..); first | refine Ix.h ?_ | refine Ix.ha ?_) | (refine St.h H ?_; clear H; intro _ H))
      all_goals first | (exfalso; omega) | skip
      exact ⟨.mk kd o nn nm cb B c l, _, rfl, g1, g2, H.sel [1, 2] rfl⟩
    obtain ⟨e, rfl⟩ : ∃ e, Rc = .ok e ts := by
      cases Rc with
      | out => exact absurd hR hne
      | err e p =>
        exfalso
        have hck : chk ts = .err e p := by
          rcases ha.at_ with h | ⟨_, h⟩
          · cases h
          · exact h
        have : levelN (rKind (curT ts)) = 0 := by rcases (chk_err hck).1 with h | h <;> rw [h] <;> rfl
        omega
      | ok e ts1 =>
        have h1 := ha.gd.1
        cases h1
        exact ⟨e, rfl⟩
    obtain ⟨_, hg2⟩ := ha.gd
    have hk := (chk_ok hg2.ok).1
    have hs : standsB lv (curK ts) = true := by rw [stands_level (by omega), ← hk]; exact decide_eq_true hL
    cases n with
    | zero => exact absurd hR hne
    | succ n =>
    replace hR : R = loopE F lv d (n + 1) e ts := hR
    unfold loopE at hR
    rw [if_pos hs] at hR
    have hstp := step_at hg2.ends hg2.ok (stands_ne hs)
    have hbin : rKind (curT ts) ∈ binL := by
      apply Classical.byContradiction
      intro hb
      rw [level_no hb] at hL
      omega
    obtain ⟨t0, r0, rfl⟩ : ∃ t0 r0, ts = t0 :: r0 := by
      cases ts with
      | nil => exact absurd rfl (ends_ne ha.ends)
      | cons t0 r0 => exact ⟨t0, r0, rfl⟩
    repeat' ((conv => whnf); first | (((with_reducible show Gd ..); first | (with_reducible first | refine Gd.t ?_ | refine Gd.f ?_ | (first | apply Gd.dec | apply Gd.beq | apply Gd.bne) <;> intro _ | refine Gd.not ?_) | refine Gd.t ?_ | refine Gd.f ?_ | apply Gd.var <;> intro _) <;> try (exfalso; omega)) | with_reducible refine Sq.mk ?_ | ((with_reducible show Ld1 ..); first | refine Ld1.h H ?_ | refine Ld1.rF ?_ | refine Ld1.r ?_) | ((with_reducible show Ld ..); first | refine Ld.h H ?_ | refine Ld.r ?_) | ((with_reducible show Ix ..); first | refine Ix.h ?_ | refine Ix.ha ?_) | (refine St.h H ?_; clear H; intro _ H))
    all_goals first | (exfalso; omega) | skip
    (((conv => whnf); refine Cl.mk (next_r X ⟨t0 :: r0, none⟩ _ (H.base2 HB) (H.atC 3 rfl) (List.cons_ne_nil _ _)) ?_); rintro _ _ ⟨rfl, hx⟩; replace H := H.ext hx; clear hx)
    ((conv => whnf); refine Al.hp H ?_; clear H; intro p8 _ H _)
    (obtain ⟨j, hj1, hj2, hb0⟩ := H.atC (c := rq ws A cw pr (⟨t0 :: r0, none⟩)) 4 rfl; have hjl := X.lt hj1 (by first | exact List.cons_ne_nil _ _ | assumption); replace H := Hp.ofQ H hb0; clear hb0)
    repeat' ((conv => whnf); first | (((with_reducible show Gd ..); first | (with_reducible first | refine Gd.t ?_ | refine Gd.f ?_ | (first | apply Gd.dec | apply Gd.beq | apply Gd.bne) <;> intro _ | refine Gd.not ?_) | refine Gd.t ?_ | refine Gd.f ?_ | apply Gd.var <;> intro _) <;> try (exfalso; omega)) | with_reducible refine Sq.mk ?_ | ((with_reducible show Ld1 ..); first | refine Ld1.h H ?_ | refine Ld1.rF ?_ | refine Ld1.r ?_) | ((with_reducible show Ld ..); first | refine Ld.h H ?_ | refine Ld.r ?_) | ((with_reducible show Ix ..); first | refine Ix.h ?_ | refine Ix.ha ?_) | (refine St.h H ?_; clear H; intro _ H))
    (have hwj : IntKind.i64.wrap ((j : Int) + 1) = ((j + 1 : Nat) : Int) := w64 rfl (by omega) (by omega); rw [hwj] at H; replace H := Hp.toQ (pr := pr) (s := ⟨r0, none⟩) (k := j + 1) H (List.tail_drop.symm.trans (congrArg List.tail hj1)) (fun e p h => by cases h); clear hwj hj1 hj2 hjl)
    have hR2 : R = ((stepP false (t0 :: r0)).and fun _ ts => F.expr (lv + 1) d ts).bind fun p ts2 => loopE F lv d n (joinP t0.kind e p.2) ts2 := by rw [hR, Res.and_bind]; rfl
    have hexR := fun w => exprR Y C (stepP false (t0 :: r0)) (lv + 1) d ⟨r0, none⟩ w (by omega) hd
    rw [← hw1] at hexR
    ((conv => whnf); refine Cl.mk (hexR _ (H.base2 HB) (H.atC 4 rfl) hstp (Res.bind_out (by rw [← hR2]; exact hne))) ?_)
    rintro _ w3 ⟨⟨kd2, o2, n2, nm2, cb2, B2, c2, l2⟩, s2, rfl, ha2, hv2, H'⟩
    replace H := H.updn (c := rq ws A cw pr ⟨r0, none⟩) (Hp.swap H') rfl (.inl rfl) (.inl rfl)
    clear H'
    ((conv => whnf); refine Al.hp H ?_; clear H; intro p9 _ H _)
    have hfix : ∀ Γ w', Hp (· = pr) w w' (bk p9 74 (ET.enc (.mk kd2 o2 n2 nm2 cb2 B2 c2 l2)) :: Γ) → Hp (· = pr) w w' (bk p9 74 (ET.enc (.mk kd2 o2 n2 nm2 cb2 B2 c2 l2)) :: Γ) := fun _ _ h => h
    repeat' ((conv => whnf); first | (((with_reducible show Gd ..); first | (with_reducible first | refine Gd.t ?_ | refine Gd.f ?_ | (first | apply Gd.dec | apply Gd.beq | apply Gd.bne) <;> intro _ | refine Gd.not ?_) | refine Gd.t ?_ | refine Gd.f ?_ | apply Gd.var <;> intro _) <;> try (exfalso; omega)) | with_reducible refine Sq.mk ?_ | ((with_reducible show Ld1 ..); first | refine Ld1.h H ?_ | refine Ld1.rF ?_ | refine Ld1.r ?_) | ((with_reducible show Ld ..); first | refine Ld.h H ?_ | refine Ld.r ?_) | ((with_reducible show Ix ..); first | refine Ix.h ?_ | refine Ix.ha ?_) | (refine St.h H ?_; clear H; intro _ H))
    ((conv => whnf); refine Cl.mk (two_r (rKind t0) (.mk kd o nn nm cb B c l) (.mk kd2 o2 n2 nm2 cb2 B2 c2 l2) _ hbin) ?_)
    rintro _ w6 ⟨kd3, o3, A3, c3, rfl, hj, H'⟩
    replace H := H.fr0 H' (.inl rfl)
    clear H'
    repeat' ((conv => whnf); first | (((with_reducible show Gd ..); first | (with_reducible first | refine Gd.t ?_ | refine Gd.f ?_ | (first | apply Gd.dec | apply Gd.beq | apply Gd.bne) <;> intro _ | refine Gd.not ?_) | refine Gd.t ?_ | refine Gd.f ?_ | apply Gd.var <;> intro _) <;> try (exfalso; omega)) | with_reducible refine Sq.mk ?_ | ((with_reducible show Ld1 ..); first | refine Ld1.h H ?_ | refine Ld1.rF ?_ | refine Ld1.r ?_) | ((with_reducible show Ld ..); first | refine Ld.h H ?_ | refine Ld.r ?_) | ((with_reducible show Ix ..); first | refine Ix.h ?_ | refine Ix.ha ?_) | (refine St.h H ?_; clear H; intro _ H))
    have hxe : ET.e (.mk kd o nn nm cb B c l) = e := hv e _ rfl
    have hk0 : rKind t0 = t0.kind := hk
    rw [hk0] at hj
    replace H := H.sel [2, 4, 0, 2, 2, 2] rfl
    refine ⟨(((stepP false (t0 :: r0)).and fun _ ts => F.expr (lv + 1) d ts).map (fun p => joinP t0.kind e p.2), n, .mk kd3 o3 0 [] [] A3 c3 [.mk kd o nn nm cb B c l, .mk kd2 o2 n2 nm2 cb2 B2 c2 l2], s2), ⟨rfl, rfl, rfl, rfl, rfl, trivial⟩, rfl, ⟨?_, ha2.map _, ?_, Hp.swap (Hp.trsN kd3 o3 0 [] [] (Hp.swap (Hp.trsS H)))⟩, Nat.lt_succ_self n⟩
    · rw [Res.map_bind]; exact hR2
    · refine Vl.map (hv2.mono fun p hp => ?_)
      rw [← hj, hxe, hp]
end
end Go.Proofs.YtfnjodpehomgfaaGreatDoor
