/- layer prog, plain: which points a search along the code meets; own work. -/
import Derived.Test.YtbbadmlekagloaaDoorPgD
namespace Go.Proofs.YtbbadmlekagloaaDoor
abbrev Pt := Nat × Int
def succs (f : Fn) (slot : Int) (x : Pt) : List Pt := match f.code[x.1]? with | some c => (nextsS x.1 c).map fun n => (n.toNat, afterS c slot x.2) | none => []
inductive Reach (f : Fn) (slot : Int) : Pt → Prop where
  | start : Reach f slot (0, 1)
  | step {x y : Pt} : Reach f slot x → y ∈ succs f slot x → Reach f slot y
def okS (s : Int) : Prop := s = 1 ∨ s = 2 ∨ s = 4
theorem okS_after {c : Ins} {slot s : Int} (h : okS s) : okS (afterS c slot s) := by
  unfold afterS; split
  · exact .inr (.inl rfl)
  · split
    · exact .inr (.inr rfl)
    · exact h
theorem next_range {f : Fn} (h : soundB f = true) {i : Nat} {c : Ins} (hc : f.code[i]? = some c) : ∀ n ∈ nextsS i c, 0 ≤ n ∧ n < f.code.length := by
  simp only [soundB, Bool.and_eq_true, List.all_eq_true] at h
  obtain ⟨⟨h1, h2⟩, h3⟩ := h
  have hi := (List.getElem?_eq_some_iff.1 hc).1
  have ha := h2 c (List.mem_of_getElem? hc)
  have hl := shaped_len h1
  obtain ⟨x, hx, he⟩ := last_get hl.1
  rw [h3] at he
  have hlast : i + 1 = f.code.length → c = x := fun e => by
    rw [show f.code.length - 1 = i by omega, hc] at hx
    exact Option.some.inj hx
  intro n hn
  unfold nextsS at hn
  unfold aloneB belowB at ha
  by_cases k3 : c.kd = 3
  · rw [if_pos k3] at hn; simp at hn; subst hn; rw [k3] at ha; simpa using ha
  · rw [if_neg k3] at hn
    by_cases k9 : c.kd = 9
    · rw [if_pos k9] at hn; simp at hn
    · rw [if_neg k9] at hn
      have hlt : i + 1 < f.code.length := by
        rcases Nat.lt_or_ge (i + 1) f.code.length with h' | h'
        · exact h'
        · have := hlast (by omega); subst this; simp [k3, k9] at he
      by_cases k4 : c.kd = 4
      · rw [if_pos k4] at hn; simp at hn
        rw [k4] at ha; simp at ha
        rcases hn with rfl | rfl <;> omega
      · rw [if_neg k4] at hn; simp at hn; subst hn; omega
theorem pigeon : ∀ (N : Nat) (l : List Nat), l.Nodup → (∀ x ∈ l, x < N) → l.length ≤ N
  | 0, l, _, h => by
    cases l with
    | nil => simp
    | cons x r => exact absurd (h x (by simp)) (by omega)
  | N + 1, l, hn, h => by
    by_cases hm : N ∈ l
    · have h1 := pigeon N (l.erase N) (hn.erase N) (fun x hx => by
        have h2 := h x (List.mem_of_mem_erase hx)
        have : x ≠ N := fun e => by subst e; exact absurd hx (hn.not_mem_erase)
        omega)
      rw [List.length_erase_of_mem hm] at h1
      omega
    · have := pigeon N l hn (fun x hx => by
        have h2 := h x hx
        have : x ≠ N := fun e => by subst e; exact hm hx
        omega)
      omega
def code3 (x : Pt) : Nat := 3 * x.1 + (if x.2 = 1 then 0 else if x.2 = 2 then 1 else 2)
theorem pts_len {q : List Pt} {N : Nat} (hn : q.Nodup) (h : ∀ x ∈ q, x.1 < N ∧ okS x.2) : q.length ≤ 3 * N := by
  have hinj : ∀ x ∈ q, ∀ y ∈ q, code3 x = code3 y → x = y := by
    intro x hx y hy e
    obtain ⟨_, h1⟩ := h x hx
    obtain ⟨_, h2⟩ := h y hy
    obtain ⟨a, b⟩ := x
    obtain ⟨c, d⟩ := y
    unfold code3 okS at *
    simp only at *
    rcases h1 with rfl | rfl | rfl <;> rcases h2 with rfl | rfl | rfl <;> simp at e ⊢ <;> omega
  have hnd : (q.map code3).Nodup := by
    clear h
    induction q with
    | nil => simp
    | cons x r ih =>
      simp only [List.map_cons, List.nodup_cons] at hn ⊢
      refine ⟨fun hm => ?_, ih hn.2 fun y hy z hz => hinj y (by simp [hy]) z (by simp [hz])⟩
      obtain ⟨y, hy, e⟩ := List.mem_map.1 hm
      have := hinj y (by simp [hy]) x (by simp) e
      subst this
      exact hn.1 hy
  have := pigeon (3 * N) (q.map code3) hnd (fun c hc => by
    obtain ⟨x, hx, rfl⟩ := List.mem_map.1 hc
    obtain ⟨h1, h2⟩ := h x hx
    unfold code3
    split <;> (try split) <;> omega)
  simpa using this
def mt (q : List Pt) (i : Nat) : Int := (if (i, 1) ∈ q then 1 else 0) + (if (i, 2) ∈ q then 2 else 0) + (if (i, 4) ∈ q then 4 else 0)
theorem mt_range (q : List Pt) (i : Nat) : 0 ≤ mt q i ∧ mt q i ≤ 7 := by unfold mt; split <;> split <;> split <;> omega
def bitand (a b : Int) : Int := IntKind.i64.wrap (BitVec.ofInt IntKind.i64.bits a &&& BitVec.ofInt IntKind.i64.bits b).toNat
theorem mt_and {q : List Pt} {i : Nat} {s : Int} (h : okS s) : bitand (mt q i) s = if (i, s) ∈ q then s else 0 := by
  unfold mt
  rcases h with rfl | rfl | rfl <;> (by_cases h1 : (i, (1 : Int)) ∈ q) <;> (by_cases h2 : (i, (2 : Int)) ∈ q) <;> (by_cases h4 : (i, (4 : Int)) ∈ q) <;> simp only [h1, h2, h4, if_true, if_false] <;> decide
theorem mt_and0 {q : List Pt} {i : Nat} {s : Int} (h : okS s) : bitand (mt q i) s = 0 ↔ (i, s) ∉ q := by
  rw [mt_and h]
  split
  · rename_i hm; rcases h with rfl | rfl | rfl <;> simp [hm]
  · rename_i hm; simp [hm]
theorem mt_snoc {q : List Pt} {i : Nat} {s : Int} (h : okS s) (hn : (i, s) ∉ q) (j : Nat) : mt (q ++ [(i, s)]) j = if j = i then mt q j + s else mt q j := by
  unfold mt
  simp only [List.mem_append, List.mem_singleton, Prod.mk.injEq]
  by_cases e : j = i
  · subst e
    rcases h with rfl | rfl | rfl <;> simp [hn] <;> omega
  · simp [e]
/-- what a search has come to: the points met, in order; those up to k have been looked at -/
structure Srch (f : Fn) (slot : Int) (q : List Pt) (k : Nat) : Prop where
  nodup : q.Nodup
  first : q[0]? = some (0, 1)
  reach : ∀ x ∈ q, Reach f slot x
  inr : ∀ x ∈ q, x.1 < f.code.length ∧ okS x.2
  done : ∀ j x, j < k → q[j]? = some x → ∀ y ∈ succs f slot x, y ∈ q
theorem Srch.begin {f : Fn} {slot : Int} (h : 1 ≤ f.code.length) : Srch f slot [(0, 1)] 0 :=
  ⟨by simp, rfl, fun x hx => by simp at hx; subst hx; exact .start, fun x hx => by simp at hx; subst hx; exact ⟨by simp; omega, .inl rfl⟩, fun j x hj => by omega⟩
theorem Srch.all {f : Fn} {slot : Int} {q : List Pt} (h : Srch f slot q q.length) (x : Pt) : x ∈ q ↔ Reach f slot x := by
  refine ⟨h.reach x, fun hr => ?_⟩
  induction hr with
  | start => exact List.mem_of_getElem? h.first
  | step _ hy ih =>
    obtain ⟨j, hj⟩ := List.getElem?_of_mem ih
    exact h.done j _ (List.getElem?_eq_some_iff.1 hj).1 hj _ hy
theorem Srch.len {f : Fn} {slot : Int} {q : List Pt} {k : Nat} (h : Srch f slot q k) : q.length ≤ 3 * f.code.length := pts_len h.nodup h.inr
theorem Srch.snoc {f : Fn} {slot : Int} {q : List Pt} {k : Nat} (h : Srch f slot q k) {x y : Pt} (hx : q[k]? = some x) (hy : y ∈ succs f slot x) (hr : y.1 < f.code.length) (ho : okS y.2) (hn : y ∉ q) : Srch f slot (q ++ [y]) k := by
  refine ⟨?_, ?_, ?_, ?_, ?_⟩
  · rw [List.nodup_append]
    refine ⟨h.nodup, by simp, fun a ha b hb => ?_⟩
    simp at hb; subst hb; exact fun e => hn (e ▸ ha)
  · rw [List.getElem?_append_left]
    · exact h.first
    · exact (List.getElem?_eq_some_iff.1 h.first).1
  · intro z hz
    rcases List.mem_append.1 hz with hz | hz
    · exact h.reach z hz
    · simp at hz; subst hz; exact .step (h.reach x (List.mem_of_getElem? hx)) hy
  · intro z hz
    rcases List.mem_append.1 hz with hz | hz
    · exact h.inr z hz
    · simp at hz; subst hz; exact ⟨hr, ho⟩
  · intro j z hj hz u hu
    have hlt := (List.getElem?_eq_some_iff.1 hx).1
    rw [List.getElem?_append_left (by omega)] at hz
    exact List.mem_append_left _ (h.done j z hj hz u hu)
theorem Srch.next {f : Fn} {slot : Int} {q : List Pt} {k : Nat} (h : Srch f slot q k) {x : Pt} (hx : q[k]? = some x) (hall : ∀ y ∈ succs f slot x, y ∈ q) : Srch f slot q (k + 1) :=
  ⟨h.nodup, h.first, h.reach, h.inr, fun j z hj hz u hu => by
    rcases Nat.lt_or_ge j k with h1 | h1
    · exact h.done j z h1 hz u hu
    · have : j = k := by omega
      subst this
      rw [hx] at hz; simp at hz; subst hz
      exact hall u hu⟩
end Go.Proofs.YtbbadmlekagloaaDoor
