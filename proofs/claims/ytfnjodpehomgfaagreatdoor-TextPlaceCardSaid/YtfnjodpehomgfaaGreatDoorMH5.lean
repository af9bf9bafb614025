/- own work: TxK, TxL, TxM, TzT, TxT, TxU, TxV, TxW, TxX, TxY, TxZ, TuA, TuB, TuC, TuD, TuE, TuF, TuH, TuI, PtA, PtC, PtE -/
import Derived.Test.YtfnjodpehomgfaaGreatDoorCards
import Derived.Test.YtfnjodpehomgfaaGreatDoorTie
import Derived.DataShut
import Derived.ProofKit
import Derived.LaidHandle
import Derived.Stop.LaidErr
import Derived.Deep.DeepHandedRow
import Derived.Deep.DeepWitnessRowRef
import Derived.Test.YtfnjodpehomgfaaGreatDoorMH4
set_option linter.unusedVariables false
set_option linter.unusedSimpArgs false
set_option linter.unusedSectionVars false
namespace Go.Tx
def KC : List Bs := [s_rb, s_semi, s_rp, k_number, s_lb, s_comma, s_lp, s_asg, k_name, k_fn]
def Sy.w : Sy → Nat
  | .lp _ _ => 0
  | .cl _ => 0
  | .el _ => 0
  | .e2 _ => 2
  | _ => 1
def wt : List Sy → Nat
  | [] => 0
  | s :: S => s.w + wt S
def Sy.bd : Sy → Nat
  | .t _ d => 40 * d + 30
  | .un d => 40 * d + 21
  | .mn d => 40 * d + 21
  | .lp _ d => 40 * d + 20
  | .cl d => 40 * d + 20
  | .a0 d => 40 * d + 20
  | .a1 d => 40 * d + 20
  | .p0 => 20
  | .p1 => 20
  | .ss d => 40 * d + 5
  | .el d => 40 * d + 5
  | .e2 d => 40 * d + 7
def Sy.ok : Sy → Prop
  | .t k d => k ∈ KC ∧ d ≤ 41
  | .un d => d ≤ 40
  | .mn d => d ≤ 40
  | .lp _ d => d ≤ 40
  | .cl d => d ≤ 40
  | .a0 d => d ≤ 40
  | .a1 d => d ≤ 40
  | .p0 => True
  | .p1 => True
  | .ss d => d ≤ 41
  | .el d => d ≤ 40
  | .e2 d => d ≤ 40
def Sy.isT : Sy → Bool
  | .t _ _ => true
  | _ => false
def Sy.bad : Sy → Bool
  | .t k _ => k == s_lp || k == s_asg || k == k_name || k == k_fn
  | _ => false
def nb : List Sy → Prop
  | [] => True
  | s :: _ => s.bad = false
def Inv : List Sy → Prop
  | [] => True
  | s :: S => s.ok ∧ (s.isT = false → nb S) ∧ s.w + wt S ≤ s.bd ∧ Inv S
theorem inv_lops {d : Nat} (hd : d ≤ 40) : ∀ (n : Nat) {S : List Sy}, Inv S → nb S → wt S ≤ 40 * d + 20 → Inv (lopsN d n ++ S) ∧ nb (lopsN d n ++ S) ∧ wt (lopsN d n ++ S) = wt S
  | 0, S, h, hn, hw => ⟨h, hn, rfl⟩
  | n + 1, S, h, hn, hw => by
    have h1 : Inv (.lp (7 - n) d :: S) := ⟨hd, fun _ => hn, by simp only [Sy.w, Sy.bd]; omega, h⟩
    have h2 : wt (.lp (7 - n) d :: S) = wt S := by simp [wt, Sy.w]
    obtain ⟨a, b, c⟩ := inv_lops hd n h1 (by rfl) (by omega)
    rw [show lopsN d (n + 1) ++ S = lopsN d n ++ (.lp (7 - n) d :: S) by simp [lopsN]]
    exact ⟨a, b, by omega⟩
theorem inv_ex {lv d : Nat} (hd : d ≤ 40) {S : List Sy} (h : Inv S) (hn : nb S) (hw : wt S ≤ 40 * d + 20) : Inv (exL lv d ++ S) ∧ nb (exL lv d ++ S) ∧ wt (exL lv d ++ S) = wt S + 1 := by
  obtain ⟨a, b, c⟩ := inv_lops hd (8 - lv) h hn hw
  show Inv (.un d :: (lopsN d (8 - lv) ++ S)) ∧ nb (.un d :: (lopsN d (8 - lv) ++ S)) ∧ wt (.un d :: (lopsN d (8 - lv) ++ S)) = _
  refine ⟨⟨hd, fun _ => b, by simp only [Sy.w, Sy.bd]; omega, a⟩, rfl, ?_⟩
  show 1 + wt (lopsN d (8 - lv) ++ S) = _
  omega
theorem inv_t {k : Bs} {d : Nat} {S : List Sy} (h : Inv S) (hk : k ∈ KC) (hd : d ≤ 41) (hw : wt S + 1 ≤ 40 * d + 30) : Inv (.t k d :: S) :=
  ⟨⟨hk, hd⟩, fun h => by simp [Sy.isT] at h, by simp only [Sy.w, Sy.bd]; omega, h⟩
theorem wt_t {k : Bs} {d : Nat} {S : List Sy} : wt (.t k d :: S) = wt S + 1 := by simp only [wt, Sy.w]; omega
theorem inv_kid {d n : Nat} (hd : d ≤ 40) : ∀ (m : Nat) {S : List Sy}, Inv S → nb S → wt S + 2 * m + 1 ≤ 40 * d + 20 → Inv (kidS d n m ++ S) ∧ nb (kidS d n m ++ S) ∧ wt (kidS d n m ++ S) ≤ wt S + 2 * m + 1
  | 0, S, h, hn, hw => by
    show Inv (.t s_rp d :: S) ∧ nb (.t s_rp d :: S) ∧ wt (.t s_rp d :: S) ≤ _
    refine ⟨inv_t h (by decide) (by omega) (by omega), rfl, ?_⟩
    rw [wt_t]; omega
  | m + 1, S, h, hn, hw => by
    obtain ⟨a, b, c⟩ := inv_kid hd m (n := n) h hn (by omega)
    obtain ⟨a2, b2, c2⟩ := inv_ex (lv := 0) hd a b (by omega)
    have e : kidS d n (m + 1) ++ S = (if m + 1 < n then [.t s_comma d] else []) ++ (exL 0 d ++ (kidS d n m ++ S)) := by
      rw [kidS, List.append_assoc, List.append_assoc]
    rw [e]
    split
    · show Inv (.t s_comma d :: (exL 0 d ++ (kidS d n m ++ S))) ∧ nb (.t s_comma d :: (exL 0 d ++ (kidS d n m ++ S))) ∧ wt (.t s_comma d :: (exL 0 d ++ (kidS d n m ++ S))) ≤ _
      exact ⟨inv_t a2 (by decide) (by omega) (by omega), rfl, by rw [wt_t]; omega⟩
    · exact ⟨a2, b2, by show wt (exL 0 d ++ (kidS d n m ++ S)) ≤ _; omega⟩
theorem inv_form {k : Bs} {d : Nat} (hd : d ≤ 40) {S : List Sy} (h : Inv S) (hn : nb S) (hw : wt S + 11 ≤ 40 * d + 20) : Inv (formS k d ++ S) ∧ wt (formS k d ++ S) ≤ wt S + 11 := by
  unfold formS
  obtain ⟨a, b, c⟩ := inv_kid hd 3 (n := 3) h hn (by omega)
  obtain ⟨a2, b2, c2⟩ := inv_kid hd 2 (n := 2) h hn (by omega)
  split
  · simp only [List.cons_append]
    have i1 := inv_t (k := s_comma) (d := d) a (by decide) (by omega) (by omega)
    have i2 := inv_t (k := k_name) (d := d) i1 (by decide) (by omega) (by rw [wt_t]; omega)
    have i3 := inv_t (k := s_comma) (d := d) i2 (by decide) (by omega) (by simp only [wt_t]; omega)
    have i4 := inv_t (k := k_name) (d := d) i3 (by decide) (by omega) (by simp only [wt_t]; omega)
    exact ⟨i4, by simp only [wt_t]; omega⟩
  · split
    · simp only [List.cons_append]
      have i1 := inv_t (k := s_comma) (d := d) a2 (by decide) (by omega) (by omega)
      have i2 := inv_t (k := k_name) (d := d) i1 (by decide) (by omega) (by rw [wt_t]; omega)
      exact ⟨i2, by simp only [wt_t]; omega⟩
    · exact ⟨a2, by omega⟩
theorem deepA_eat {d : Nat} {q p : List Sy} (h : deepA d q = .eat p) : d ≤ 40 ∧ p = q := by
  unfold deepA at h
  split at h
  · simp at h
  · simp only [Act.eat.injEq] at h; exact ⟨by omega, h.symm⟩
theorem inv_un {d : Nat} {k : Bs} {p S : List Sy} (hd : d ≤ 40) (ha : actU d k = .eat p) (h : Inv S) (hn : nb S) (hw : wt S ≤ 40 * d + 20) : Inv (p ++ S) := by
  unfold actU at ha
  split at ha
  · obtain ⟨h1, rfl⟩ := deepA_eat ha
    show Inv (.mn (d + 1) :: S)
    exact ⟨h1, fun _ => hn, by simp only [Sy.w, Sy.bd]; omega, h⟩
  split at ha
  · obtain ⟨h1, rfl⟩ := deepA_eat ha
    show Inv (.un (d + 1) :: S)
    exact ⟨h1, fun _ => hn, by simp only [Sy.w, Sy.bd]; omega, h⟩
  split at ha
  · simp only [Act.eat.injEq] at ha; subst ha; exact h
  split at ha
  · simp only [Act.eat.injEq] at ha; subst ha
    show Inv (.cl d :: S)
    exact ⟨hd, fun _ => hn, by simp only [Sy.w, Sy.bd]; omega, h⟩
  split at ha
  · obtain ⟨h1, rfl⟩ := deepA_eat ha
    have i1 := inv_t (k := s_rp) (d := d) h (by decide) (by omega) (by omega)
    rw [List.append_assoc]
    exact (inv_ex h1 i1 (by rfl) (by rw [wt_t]; omega)).1
  split at ha
  · obtain ⟨h1, rfl⟩ := deepA_eat ha
    obtain ⟨i1, i2⟩ := inv_form (k := k) h1 h hn (by omega)
    show Inv (.t s_lp (d + 1) :: (formS k (d + 1) ++ S))
    exact inv_t i1 (by decide) (by omega) (by omega)
  · simp at ha
theorem inv_cho {d : Nat} {S : List Sy} (hd : d ≤ 40) (h : Inv S) (hn : nb S) (hw : wt S ≤ 40 * d + 5) : Inv (choS d ++ S) := by
  have i1 : Inv (.el d :: S) := ⟨hd, fun _ => hn, by simp only [Sy.w, Sy.bd]; omega, h⟩
  have w1 : wt (.el d :: S) = wt S := by simp [wt, Sy.w]
  have i2 : Inv (.ss (d + 1) :: .el d :: S) := ⟨by simp only [Sy.ok]; omega, fun _ => by rfl, by simp only [Sy.w, Sy.bd]; omega, i1⟩
  have w2 : wt (.ss (d + 1) :: .el d :: S) = wt S + 1 := by simp only [wt, Sy.w]; omega
  have i3 := inv_t (k := s_lb) (d := d + 1) i2 (by decide) (by omega) (by omega)
  have := (inv_ex (lv := 0) hd i3 (by rfl) (by rw [wt_t]; omega)).1
  simpa [choS, blk] using this
theorem inv_act {s : Sy} {k : Bs} {p S : List Sy} (ha : act s k = .eat p) (h : Inv (s :: S)) : Inv (p ++ S) := by
  obtain ⟨h1, h2, h3, h4⟩ := h
  cases s with
  | t k' d =>
    simp only [act] at ha
    split at ha
    · simp only [Act.eat.injEq] at ha; subst ha; exact h4
    · simp at ha
  | un d => exact inv_un h1 ha h4 (h2 rfl) (by simp only [Sy.w, Sy.bd] at h3; omega)
  | mn d =>
    simp only [act] at ha
    split at ha
    · simp only [Act.eat.injEq] at ha; subst ha; exact h4
    · exact inv_un h1 ha h4 (h2 rfl) (by simp only [Sy.w, Sy.bd] at h3; omega)
  | lp lv d =>
    simp only [act] at ha
    split at ha
    · simp only [Act.eat.injEq] at ha; subst ha
      have i1 : Inv (.lp lv d :: S) := ⟨h1, h2, h3, h4⟩
      have w1 : wt (.lp lv d :: S) = wt S := by simp [wt, Sy.w]
      rw [List.append_assoc]
      exact (inv_ex h1 i1 (by rfl) (by simp only [Sy.w, Sy.bd] at h3; show wt (.lp lv d :: S) ≤ _; omega)).1
    · simp at ha
  | cl d =>
    simp only [act] at ha
    split at ha
    · obtain ⟨h5, rfl⟩ := deepA_eat ha
      show Inv (.a0 (d + 1) :: S)
      exact ⟨h5, fun _ => h2 rfl, by simp only [Sy.w, Sy.bd] at h3 ⊢; omega, h4⟩
    · simp at ha
  | a0 d =>
    simp only [act] at ha
    split at ha
    · simp only [Act.eat.injEq] at ha; subst ha; exact h4
    · cases hu : actU d k with
      | eat q =>
        rw [hu] at ha
        simp only [Act.more, Act.eat.injEq] at ha; subst ha
        have i1 : Inv (.a1 d :: S) := ⟨h1, h2, h3, h4⟩
        have w1 : wt (.a1 d :: S) ≤ 40 * d + 20 := h3
        obtain ⟨a, b, c⟩ := inv_lops h1 8 i1 (by rfl) w1
        rw [List.append_assoc, List.append_assoc]
        exact inv_un h1 hu a b (by show wt (lopsN d 8 ++ (.a1 d :: S)) ≤ _; omega)
      | pop => exact absurd hu (actU_np d k)
      | err e => rw [hu] at ha; simp [Act.more] at ha
  | a1 d =>
    simp only [act] at ha
    split at ha
    · simp only [Act.eat.injEq] at ha; subst ha; exact h4
    · split at ha
      · simp only [Act.eat.injEq] at ha; subst ha
        have i1 : Inv (.a1 d :: S) := ⟨h1, h2, h3, h4⟩
        rw [List.append_assoc]
        exact (inv_ex h1 i1 (by rfl) h3).1
      · simp at ha
  | p0 =>
    simp only [act] at ha
    split at ha
    · simp only [Act.eat.injEq] at ha; subst ha; exact h4
    · split at ha
      · simp only [Act.eat.injEq] at ha; subst ha
        show Inv (.p1 :: S)
        exact ⟨trivial, h2, h3, h4⟩
      · simp at ha
  | p1 =>
    simp only [act] at ha
    split at ha
    · simp only [Act.eat.injEq] at ha; subst ha; exact h4
    · split at ha
      · simp only [Act.eat.injEq] at ha; subst ha
        have i1 : Inv (.p1 :: S) := ⟨trivial, h2, h3, h4⟩
        simp only [Sy.w, Sy.bd] at h3
        show Inv (.t k_name 0 :: .p1 :: S)
        exact inv_t i1 (by decide) (by omega) (by simp only [wt, Sy.w]; omega)
      · simp at ha
  | ss d =>
    simp only [Sy.w, Sy.bd] at h3
    have h1' : d ≤ 41 := h1
    simp only [act] at ha
    split at ha
    · simp only [Act.eat.injEq] at ha; subst ha; exact h4
    · split at ha
      · have hss : d ≤ 40 → Inv (.ss d :: S) := fun _ => ⟨h1, h2, by simp only [Sy.w, Sy.bd]; omega, h4⟩
        have wss : wt (.ss d :: S) = wt S + 1 := by simp only [wt, Sy.w]; omega
        split at ha
        · obtain ⟨h5, rfl⟩ := deepA_eat ha
          rw [List.append_assoc]
          exact inv_cho h5 (hss h5) (by rfl) (by show wt (.ss d :: S) ≤ _; omega)
        · split at ha
          · obtain ⟨h5, rfl⟩ := deepA_eat ha
            have i2 : Inv (.ss (d + 1) :: .ss d :: S) := ⟨by simp only [Sy.ok]; omega, fun _ => by rfl, by simp only [Sy.w, Sy.bd]; omega, hss h5⟩
            have w2 : wt (.ss (d + 1) :: .ss d :: S) = wt S + 2 := by simp only [wt, Sy.w]; omega
            have i3 := inv_t (k := s_lb) (d := d + 1) i2 (by decide) (by omega) (by omega)
            have := (inv_ex (lv := 0) h5 i3 (by rfl) (by rw [wt_t]; omega)).1
            simpa [blk] using this
          · obtain ⟨h5, rfl⟩ := deepA_eat ha
            have i2 := inv_t (k := s_semi) (d := d) (hss h5) (by decide) (by omega) (by omega)
            have w2 : wt (.t s_semi d :: .ss d :: S) = wt S + 2 := by rw [wt_t]; omega
            have hex := inv_ex (lv := 0) h5 i2 (by rfl) (by omega)
            rw [List.append_assoc]
            show Inv (plainS d k ++ (.t s_semi d :: .ss d :: S))
            unfold plainS
            split
            · exact i2
            split
            · exact i2
            split
            · exact i2
            split
            · exact hex.1
            split
            · exact hex.1
            split
            · have j1 : Inv (.a0 d :: .t s_semi d :: .ss d :: S) := ⟨h5, fun _ => by rfl, by simp only [Sy.w, Sy.bd]; omega, i2⟩
              have v1 : wt (.a0 d :: .t s_semi d :: .ss d :: S) = wt S + 3 := by simp only [wt, Sy.w]; omega
              have j2 := inv_t (k := s_lp) (d := d) j1 (by decide) (by omega) (by omega)
              have j3 := inv_t (k := k_name) (d := d) j2 (by decide) (by omega) (by simp only [wt_t]; omega)
              have j4 := inv_t (k := s_asg) (d := d) j3 (by decide) (by omega) (by simp only [wt_t]; omega)
              show Inv (.t k_name d :: .t s_asg d :: .t k_name d :: .t s_lp d :: .a0 d :: .t s_semi d :: .ss d :: S)
              exact inv_t (k := k_name) (d := d) j4 (by decide) (by omega) (by simp only [wt_t]; omega)
            split
            · have j1 := inv_t (k := s_asg) (d := d) hex.1 (by decide) (by omega) (by omega)
              show Inv (.t k_name d :: .t s_asg d :: (exL 0 d ++ (.t s_semi d :: .ss d :: S)))
              exact inv_t (k := k_name) (d := d) j1 (by decide) (by omega) (by rw [wt_t]; omega)
            · show Inv (.t s_asg d :: (exL 0 d ++ (.t s_semi d :: .ss d :: S)))
              exact inv_t (k := s_asg) (d := d) hex.1 (by decide) (by omega) (by omega)
      · simp at ha
  | el d =>
    simp only [act] at ha
    split at ha
    · simp only [Act.eat.injEq] at ha; subst ha
      show Inv (.e2 d :: S)
      exact ⟨h1, h2, by simp only [Sy.w, Sy.bd] at h3 ⊢; omega, h4⟩
    · simp at ha
  | e2 d =>
    simp only [Sy.w, Sy.bd] at h3
    simp only [act] at ha
    split at ha
    · obtain ⟨h5, rfl⟩ := deepA_eat ha
      exact inv_cho h5 h4 (h2 rfl) (by omega)
    · split at ha
      · simp only [Act.eat.injEq] at ha; subst ha
        have h1' : d ≤ 40 := h1
        show Inv (.ss (d + 1) :: S)
        exact ⟨by simp only [Sy.ok]; omega, fun _ => h2 rfl, by simp only [Sy.w, Sy.bd]; omega, h4⟩
      · simp at ha
theorem inv_S0 : Inv S0 := by
  have i0 : Inv [Sy.ss 1] := ⟨by simp only [Sy.ok]; omega, fun _ => trivial, by decide, trivial⟩
  have i1 := inv_t (k := s_lb) (d := 1) i0 (by decide) (by omega) (by decide)
  have i2 : Inv (.p0 :: .t s_lb 1 :: [Sy.ss 1]) := ⟨trivial, fun _ => by rfl, by decide, i1⟩
  have i3 := inv_t (k := s_lp) (d := 0) i2 (by decide) (by omega) (by decide)
  have i4 := inv_t (k := k_name) (d := 0) i3 (by decide) (by omega) (by decide)
  exact inv_t (k := k_fn) (d := 0) i4 (by decide) (by omega) (by decide)
theorem inv_go {k : Bs} : ∀ {S S' : List Sy}, Inv S → go S k = .eat S' → Inv S'
  | [], S', _, h => by
    rw [go] at h
    split at h
    · simp at h
    · split at h
      · simp only [Go1.eat.injEq] at h; subst h; exact inv_S0.2.2.2
      · simp at h
  | s :: S, S', hi, h => by
    rw [go] at h
    cases ha : act s k with
    | eat p =>
      rw [ha] at h
      simp only [Go1.eat.injEq] at h; subst h
      exact inv_act ha hi
    | pop => rw [ha] at h; exact inv_go hi.2.2.2 h
    | err e => rw [ha] at h; simp at h
theorem inv_wt {S : List Sy} (h : Inv S) : wt S ≤ 1670 := by
  cases S with
  | nil => simp [wt]
  | cons s S =>
    obtain ⟨h1, _, h3, _⟩ := h
    show s.w + wt S ≤ 1670
    cases s <;> simp only [Sy.ok, Sy.bd] at h1 h3 <;> omega
end Go.Tx
namespace Go.Tx
def kc (j : Nat) : Bs := KC.getD j []
def CL : List Bs := [[125], [59], [41], [49], [123], [44], [40], [61], [120], [102, 110]]
def clo (j : Nat) : Bs := CL.getD j []
def Sy.null : Sy → Bool
  | .lp _ _ => true
  | .cl _ => true
  | .el _ => true
  | _ => false
def ok6 : List Sy → Prop
  | [] => True
  | s :: S => if s.null = true then ok6 S else s.bad = false
theorem inv_ok6 : ∀ {S : List Sy}, Inv S → nb S → ok6 S
  | [], _, _ => trivial
  | s :: S, h, hn => by
    unfold ok6
    split
    · rename_i h1
      exact inv_ok6 h.2.2.2 (h.2.1 (by cases s <;> first | rfl | (simp [Sy.null] at h1)))
    · exact hn
theorem wt_app : ∀ (p S : List Sy), wt (p ++ S) = wt p + wt S
  | [], S => by simp [wt]
  | s :: p, S => by simp only [List.cons_append, wt, wt_app p S]; omega
def Clo (S : List Sy) : Prop := ∃ i, i < 10 ∧ (ok6 S → i < 6) ∧ (∀ j, j < i → ∃ e, go S (kc j) = .err e) ∧ ∃ S', go S (kc i) = .eat S' ∧ wt S' + 1 ≤ wt S
theorem clo_of {s : Sy} {S p : List Sy} (i : Nat) (hi : i < 10) (h6 : ok6 (s :: S) → i < 6) (hj : ∀ j, j < i → ∃ e, act s (kc j) = .err e) (ha : act s (kc i) = .eat p) (hw : wt p + 1 ≤ s.w) : Clo (s :: S) := by
  refine ⟨i, hi, h6, fun j h => ?_, p ++ S, go_eat ha, ?_⟩
  · obtain ⟨e, he⟩ := hj j h
    exact ⟨e, by rw [go, he]⟩
  · rw [wt_app]
    show wt p + wt S + 1 ≤ s.w + wt S
    omega
theorem kc_of {k : Bs} (h : k ∈ KC) : ∃ i, i < 10 ∧ kc i = k ∧ (∀ j, j < i → kc j ≠ k) ∧ ((k == s_lp || k == s_asg || k == k_name || k == k_fn) = false → i < 6) := by
  simp only [KC, List.mem_cons, List.not_mem_nil, or_false] at h
  rcases h with rfl | rfl | rfl | rfl | rfl | rfl | rfl | rfl | rfl | rfl
  · exact ⟨0, by decide, rfl, by decide, by decide⟩
  · exact ⟨1, by decide, rfl, by decide, by decide⟩
  · exact ⟨2, by decide, rfl, by decide, by decide⟩
  · exact ⟨3, by decide, rfl, by decide, by decide⟩
  · exact ⟨4, by decide, rfl, by decide, by decide⟩
  · exact ⟨5, by decide, rfl, by decide, by decide⟩
  · exact ⟨6, by decide, rfl, by decide, by decide⟩
  · exact ⟨7, by decide, rfl, by decide, by decide⟩
  · exact ⟨8, by decide, rfl, by decide, by decide⟩
  · exact ⟨9, by decide, rfl, by decide, by decide⟩
theorem no_stand (lv : Nat) : ∀ j, j < 10 → standsB lv (kc j) = false := by
  intro j hj
  have h : ∀ l ∈ levels, ∀ j, j < 10 → l.contains (kc j) = false := by decide
  unfold standsB
  cases hl : levels[lv]? with
  | none => rfl
  | some l => exact h l (List.mem_of_getElem? hl) j hj
theorem null_pop {s : Sy} (h : s.null = true) : act s k_end = .pop ∧ ∀ j, j < 6 → act s (kc j) = .pop := by
  cases s with
  | lp lv d =>
    refine ⟨?_, fun j hj => ?_⟩
    · simp only [act]
      rw [if_neg]
      intro e
      exact stands_ne e rfl
    · simp only [act]
      rw [no_stand lv j (by omega)]; rfl
  | cl d =>
    refine ⟨rfl, fun j hj => ?_⟩
    have : ∀ j, j < 6 → kc j ≠ s_lp := by decide
    simp only [act]; rw [if_neg (this j hj)]
  | el d =>
    refine ⟨rfl, fun j hj => ?_⟩
    have : ∀ j, j < 6 → kc j ≠ k_else := by decide
    simp only [act]; rw [if_neg (this j hj)]
  | _ => simp [Sy.null] at h
theorem act_three {s : Sy} {d : Nat} (h : ∀ k, k ≠ k_number → act s k = actU d k) : ∀ j, j < 3 → ∃ e, act s (kc j) = .err e := by
  intro j hj
  have h1 : ∀ j, j < 3 → kc j ≠ k_number := by decide
  refine ⟨141, ?_⟩
  rw [h _ (h1 j hj)]
  match j, hj with
  | 0, _ => rfl
  | 1, _ => rfl
  | 2, _ => rfl
theorem greedy : ∀ {S : List Sy}, Inv S → ∀ e, go S k_end = .err e → Clo S
  | [], _, e, h => by
    rw [go, if_pos rfl] at h; simp at h
  | s :: S, hi, e, h => by
    by_cases hn : s.null = true
    · obtain ⟨p1, p2⟩ := null_pop hn
      rw [go, p1] at h
      obtain ⟨i, h1, h2, h3, S', h4, h5⟩ := greedy hi.2.2.2 e h
      have hT : s.isT = false := by cases s <;> first | rfl | (simp [Sy.null] at hn)
      have h6 := h2 (inv_ok6 hi.2.2.2 (hi.2.1 hT))
      have hg : ∀ j, j < 6 → go (s :: S) (kc j) = go S (kc j) := fun j hj => by rw [go, p2 j hj]
      refine ⟨i, h1, fun _ => h6, fun j hj => ?_, S', ?_, ?_⟩
      · rw [hg j (by omega)]; exact h3 j hj
      · rw [hg i h6]; exact h4
      · show wt S' + 1 ≤ s.w + wt S
        omega
    · have hb : ok6 (s :: S) → s.bad = false := fun h => by unfold ok6 at h; rw [if_neg hn] at h; exact h
      cases s with
      | t k d =>
        obtain ⟨i, h1, h2, h3, h4⟩ := kc_of hi.1.1
        refine clo_of (p := []) i h1 (fun h => h4 (hb h)) (fun j hj => ⟨141, ?_⟩) ?_ (Nat.le_of_eq rfl)
        · simp only [act]; rw [if_neg (h3 j hj)]
        · simp only [act]; rw [if_pos h2]
      | un d => exact clo_of (p := []) 3 (by decide) (fun _ => by decide) (act_three fun k _ => rfl) rfl (Nat.le_of_eq rfl)
      | mn d => exact clo_of (p := []) 3 (by decide) (fun _ => by decide) (act_three (d := d) fun k hk => by simp only [act]; rw [if_neg hk]) rfl (Nat.le_of_eq rfl)
      | lp lv d => exact absurd rfl hn
      | cl d => exact absurd rfl hn
      | el d => exact absurd rfl hn
      | a0 d => exact clo_of (p := []) 2 (by decide) (fun _ => by decide) (fun j hj => ⟨141, by match j, hj with | 0, _ => rfl | 1, _ => rfl⟩) rfl (Nat.le_of_eq rfl)
      | a1 d => exact clo_of (p := []) 2 (by decide) (fun _ => by decide) (fun j hj => ⟨141, by match j, hj with | 0, _ => rfl | 1, _ => rfl⟩) rfl (Nat.le_of_eq rfl)
      | p0 => exact clo_of (p := []) 2 (by decide) (fun _ => by decide) (fun j hj => ⟨141, by match j, hj with | 0, _ => rfl | 1, _ => rfl⟩) rfl (Nat.le_of_eq rfl)
      | p1 => exact clo_of (p := []) 2 (by decide) (fun _ => by decide) (fun j hj => ⟨141, by match j, hj with | 0, _ => rfl | 1, _ => rfl⟩) rfl (Nat.le_of_eq rfl)
      | ss d => exact clo_of (p := []) 0 (by decide) (fun _ => by decide) (fun j hj => absurd hj (by omega)) rfl (Nat.le_of_eq rfl)
      | e2 d => exact clo_of (p := [.ss (d + 1)]) 4 (by decide) (fun _ => by decide) (fun j hj => ⟨141, by match j, hj with | 0, _ => rfl | 1, _ => rfl | 2, _ => rfl | 3, _ => rfl⟩) rfl (Nat.le_of_eq rfl)
theorem read_clo {l : Bs} {p : Nat} (j : Nat) (hj : j < 10) (h : l.drop p = clo j) : ∃ t, readT l p = (t, p + (clo j).length) ∧ t.kind = kc j ∧ t.err = 0 ∧ t.at_ = p ∧ t.n ≠ -9223372036854775808 := by
  unfold readT
  match j, hj with
  | 0, _ => rw [show skp false (l.drop p) p = p by rw [h]; rfl, h]; exact ⟨_, rfl, rfl, rfl, rfl, fun e => absurd (show (0 : Int) = -9223372036854775808 from e) (by decide)⟩
  | 1, _ => rw [show skp false (l.drop p) p = p by rw [h]; rfl, h]; exact ⟨_, rfl, rfl, rfl, rfl, fun e => absurd (show (0 : Int) = -9223372036854775808 from e) (by decide)⟩
  | 2, _ => rw [show skp false (l.drop p) p = p by rw [h]; rfl, h]; exact ⟨_, rfl, rfl, rfl, rfl, fun e => absurd (show (0 : Int) = -9223372036854775808 from e) (by decide)⟩
  | 3, _ => rw [show skp false (l.drop p) p = p by rw [h]; rfl, h]; exact ⟨_, rfl, rfl, rfl, rfl, fun e => absurd (show (-1 : Int) = -9223372036854775808 from e) (by decide)⟩
  | 4, _ => rw [show skp false (l.drop p) p = p by rw [h]; rfl, h]; exact ⟨_, rfl, rfl, rfl, rfl, fun e => absurd (show (0 : Int) = -9223372036854775808 from e) (by decide)⟩
  | 5, _ => rw [show skp false (l.drop p) p = p by rw [h]; rfl, h]; exact ⟨_, rfl, rfl, rfl, rfl, fun e => absurd (show (0 : Int) = -9223372036854775808 from e) (by decide)⟩
  | 6, _ => rw [show skp false (l.drop p) p = p by rw [h]; rfl, h]; exact ⟨_, rfl, rfl, rfl, rfl, fun e => absurd (show (0 : Int) = -9223372036854775808 from e) (by decide)⟩
  | 7, _ => rw [show skp false (l.drop p) p = p by rw [h]; rfl, h]; exact ⟨_, rfl, rfl, rfl, rfl, fun e => absurd (show (0 : Int) = -9223372036854775808 from e) (by decide)⟩
  | 8, _ => rw [show skp false (l.drop p) p = p by rw [h]; rfl, h]; exact ⟨_, rfl, rfl, rfl, rfl, fun e => absurd (show (0 : Int) = -9223372036854775808 from e) (by decide)⟩
  | 9, _ => rw [show skp false (l.drop p) p = p by rw [h]; rfl, h]; exact ⟨_, rfl, rfl, rfl, rfl, fun e => absurd (show (0 : Int) = -9223372036854775808 from e) (by decide)⟩
def Fine (u : Tk) : Prop := u.err = 0 ∧ ¬ (u.kind = k_number ∧ u.n = -9223372036854775808)
def endT (l : Bs) : Tk := ⟨k_end, [], l.length, 0, 0⟩
theorem end_fine (l : Bs) : Fine (endT l) := ⟨rfl, fun h => absurd (show k_end = k_number from h.1) (by decide)⟩
structure At (l : Bs) (S : List Sy) : Prop where
  inv : Inv S
  own : runT l = run S [endT l]
  more : ∀ m u r, words (l ++ 10 :: m) (m.length + 1) (l.length + 1) = u :: r → Fine u → runT (l ++ 10 :: m) = run S (u :: r)
theorem clo_pos (j : Nat) (hj : j < 10) : 1 ≤ (clo j).length ∧ (clo j).length ≤ 2 := by
  have : ∀ j, j < 10 → 1 ≤ (clo j).length ∧ (clo j).length ≤ 2 := by decide
  exact this j hj
theorem kc_ne (j : Nat) (hj : j < 10) : kc j ≠ k_end := by
  have : ∀ j, j < 10 → kc j ≠ k_end := by decide
  exact this j hj
theorem words_clo {l : Bs} (j : Nat) (hj : j < 10) : ∃ t, Fine t ∧ t.kind = kc j ∧ t.at_ = l.length + 1 ∧ (∀ k, 2 ≤ k → words (l ++ 10 :: clo j) k (l.length + 1) = [t, endT (l ++ 10 :: clo j)]) ∧ ∀ m, words (l ++ 10 :: (clo j ++ 10 :: m)) ((clo j ++ 10 :: m).length + 1) (l.length + 1) = t :: words ((l ++ 10 :: clo j) ++ 10 :: m) (m.length + 1) ((l ++ 10 :: clo j).length + 1) := by
  obtain ⟨c1, c2⟩ := clo_pos j hj
  have hd : (l ++ 10 :: clo j).drop (l.length + 1) = clo j := by rw [← List.drop_drop, List.drop_left]; rfl
  have hL : (l ++ 10 :: clo j).length = l.length + 1 + (clo j).length := by simp; omega
  obtain ⟨t, h1, h2, h3, h4, h5⟩ := read_clo (l := l ++ 10 :: clo j) (p := l.length + 1) j hj hd
  have h6 : readT (l ++ 10 :: clo j) (l.length + 1 + (clo j).length) = (endT (l ++ 10 :: clo j), (l ++ 10 :: clo j).length) := by
    have e : (l ++ 10 :: clo j).drop (l.length + 1 + (clo j).length) = [] := List.drop_eq_nil_of_le (by omega)
    unfold readT
    rw [e, skp, e]; rfl
  have hw : ∀ k, 2 ≤ k → words (l ++ 10 :: clo j) k (l.length + 1) = [t, endT (l ++ 10 :: clo j)] := fun k hk => by
    obtain ⟨k, rfl⟩ : ∃ k', k = k' + 2 := ⟨k - 2, by omega⟩
    rw [words_succ, h1, if_neg (by simp only [h2, h3]; exact fun e => e.elim (fun e => e rfl) (kc_ne j hj)), words_succ, h6, if_pos (.inr rfl)]
  refine ⟨t, ⟨h3, fun e => h5 e.2⟩, h2, h4, hw, fun m => ?_⟩
  obtain ⟨A, u, e1, e2, e3, e4⟩ := words_nl (l := l ++ 10 :: clo j) (m := m) 3 (l.length + 1) (by omega) (by omega)
  rw [hw 3 (by omega)] at e1
  have e5 : A = [t] ∧ u = endT (l ++ 10 :: clo j) := by
    have := congrArg List.reverse e1
    simp at this
    obtain ⟨a, b⟩ := this
    refine ⟨?_, a.symm⟩
    have := congrArg List.reverse b
    simpa using this.symm
  obtain ⟨rfl, rfl⟩ := e5
  have := e3 rfl ((clo j ++ 10 :: m).length + 1) (by simp; omega)
  simp only [List.append_assoc, List.cons_append, List.nil_append] at this ⊢
  exact this
theorem run_end (S : List Sy) (l : Bs) : run S [endT l] = match go S k_end with
    | .fin => .ok () [endT l]
    | .err e => .err e l.length
    | .eat _ => .out := by
  rw [run]
  show (match go S k_end with | .fin => _ | .err e => _ | .eat S' => _) = _
  cases go S k_end <;> rfl
theorem run_two (S : List Sy) (t : Tk) (u : Tk) (r : List Tk) (hu : Fine u) : run S (t :: u :: r) = match go S t.kind with
    | .fin => .ok () (t :: u :: r)
    | .err e => .err e t.at_
    | .eat S' => run S' (u :: r) := by
  rw [run]
  cases go S t.kind with
  | fin => rfl
  | err e => rfl
  | eat S' =>
    simp only
    rw [if_neg (fun e => e hu.1), if_neg (fun e => hu.2 ⟨e.1, e.2.1⟩)]
theorem at_clo {l : Bs} {S : List Sy} (h : At l S) (j : Nat) (hj : j < 10) : (∀ e, go S (kc j) = .err e → runT (l ++ 10 :: clo j) = .err e (l.length + 1)) ∧ ∀ S', go S (kc j) = .eat S' → At (l ++ 10 :: clo j) S' := by
  obtain ⟨c1, c2⟩ := clo_pos j hj
  obtain ⟨t, h1, h2, h3, h4, h5⟩ := words_clo (l := l) j hj
  have hr := h.more (clo j) t _ (h4 _ (by omega)) h1
  rw [run_two S t _ _ (end_fine _), h2, h3] at hr
  refine ⟨fun e he => by rw [hr, he], fun S' he => ⟨inv_go h.inv he, by rw [hr, he], fun m u r hw hu => ?_⟩⟩
  have := h.more (clo j ++ 10 :: m) t _ (h5 m) h1
  rw [hw, run_two S t _ _ hu, h2, he] at this
  rw [List.append_assoc]
  exact this
theorem go_end : ∀ (S : List Sy), Inv S → go S k_end = .fin ∨ go S k_end = .err 141
  | [], _ => .inl (by rw [go, if_pos rfl])
  | s :: S, hi => by
    have hu : ∀ d, actU d k_end = .err 141 := fun d => rfl
    cases s with
    | t k d =>
      have h : k_end ≠ k := by
        rintro rfl
        exact absurd hi.1.1 (by decide)
      refine .inr ?_
      simp only [go, act]; rw [if_neg h]
    | un d => exact .inr rfl
    | mn d => exact .inr rfl
    | lp lv d => rw [go, (null_pop (s := .lp lv d) rfl).1]; exact go_end S hi.2.2.2
    | cl d => rw [go, (null_pop (s := .cl d) rfl).1]; exact go_end S hi.2.2.2
    | el d => rw [go, (null_pop (s := .el d) rfl).1]; exact go_end S hi.2.2.2
    | a0 d => exact .inr rfl
    | a1 d => exact .inr rfl
    | p0 => exact .inr rfl
    | p1 => exact .inr rfl
    | ss d => exact .inr rfl
    | e2 d => exact .inr rfl
end Go.Tx
namespace Go.Tx
theorem read_place {l : Bs} {p : Nat} (hp : p ≤ l.length) : ((readT l p).1.kind ≠ k_end → (readT l p).1.at_ < l.length) ∧ ((readT l p).1.kind = k_end → (readT l p).1 = endT l) := by
  obtain ⟨h1, h2⟩ := skp_range false (l.drop p) p
  rw [List.length_drop] at h2
  by_cases ha : skp false (l.drop p) p < l.length
  · obtain ⟨c, r, hcr⟩ : ∃ c r, l.drop (skp false (l.drop p) p) = c :: r := ⟨_, _, List.drop_eq_getElem_cons ha⟩
    have hat : (readT l p).1.at_ = skp false (l.drop p) p ∧ (readT l p).1.kind ≠ k_end := by
      unfold readT
      rw [hcr]
      simp only
      split
      · unfold named
        split
        · rename_i hkw
          refine ⟨rfl, fun e => ?_⟩
          have e : (c :: r).take (spanN alnum (c :: r)) = k_end := e
          rw [e] at hkw
          exact absurd hkw (by decide)
        · exact ⟨rfl, fun e => absurd (show k_name = k_end from e) (by decide)⟩
      · split
        · unfold number
          split
          · exact ⟨rfl, fun e => absurd (show k_number = k_end from e) (by decide)⟩
          · exact ⟨rfl, fun e => absurd (show k_number = k_end from e) (by decide)⟩
        · split
          · rename_i t ht
            unfold signAt at ht
            have := List.mem_of_find?_eq_some ht
            have h9 : ∀ t ∈ signs, t ≠ k_end := by decide
            exact ⟨rfl, h9 t this⟩
          · exact ⟨rfl, fun e => absurd (show ([] : Bs) = k_end from e) (by decide)⟩
    exact ⟨fun _ => by rw [hat.1]; exact ha, fun e => absurd e hat.2⟩
  · have hd : l.drop (skp false (l.drop p) p) = [] := List.drop_eq_nil_of_le (by omega)
    have : (readT l p).1 = endT l := by unfold readT; rw [hd]; rfl
    exact ⟨fun h => absurd (by rw [this]; rfl) h, fun _ => this⟩
theorem words_place {l : Bs} : ∀ (n p : Nat), p ≤ l.length → ∀ t ∈ words l n p, (t.kind ≠ k_end → t.at_ < l.length) ∧ (t.kind = k_end → t = endT l)
  | 0, p, _, t, ht => by simp [words] at ht
  | n + 1, p, hp, t, ht => by
    obtain ⟨h4, _, _⟩ := read_adv l hp
    rw [words_succ] at ht
    split at ht
    · rw [List.mem_singleton.1 ht]; exact read_place hp
    · rcases List.mem_cons.1 ht with rfl | ht
      · exact read_place hp
      · exact words_place n _ h4 t ht
theorem run_place : ∀ (ts : List Tk) (S : List Sy) (e : Int) (q : Nat), ts ≠ [] → run S ts = .err e q → ∃ a ∈ ts, a.at_ = q
  | [], _, _, _, h, _ => absurd rfl h
  | [t], S, e, q, _, h => by
    rw [run] at h
    cases hg : go S t.kind with
    | fin => rw [hg] at h; simp at h
    | err e' => rw [hg] at h; simp only [Res.err.injEq] at h; exact ⟨t, by simp, h.2⟩
    | eat S' => rw [hg] at h; simp at h
  | t :: u :: r, S, e, q, _, h => by
    rw [run] at h
    cases hg : go S t.kind with
    | fin => rw [hg] at h; simp at h
    | err e' => rw [hg] at h; simp only [Res.err.injEq] at h; exact ⟨t, by simp, h.2⟩
    | eat S' =>
      rw [hg] at h
      simp only at h
      split at h
      · simp only [Res.err.injEq] at h; exact ⟨u, by simp, h.2⟩
      · split at h
        · simp only [Res.err.injEq] at h; exact ⟨u, by simp, h.2⟩
        · obtain ⟨a, ha, hq⟩ := run_place (u :: r) S' e q (by simp) h
          exact ⟨a, List.mem_cons_of_mem _ ha, hq⟩
theorem act_err {s : Sy} {k : Bs} {e : Int} (h : act s k = .err e) : e = 141 ∨ e = 144 := by
  have hd : ∀ {d : Nat} {p : List Sy}, deepA d p = .err e → e = 144 := fun {d p} h => by
    unfold deepA at h
    split at h
    · simp only [Act.err.injEq] at h; exact h.symm
    · simp at h
  have hu : ∀ d, actU d k = .err e → e = 141 ∨ e = 144 := fun d h => by
    unfold actU at h
    split at h
    · exact .inr (hd h)
    split at h
    · exact .inr (hd h)
    split at h
    · simp at h
    split at h
    · simp at h
    split at h
    · exact .inr (hd h)
    split at h
    · exact .inr (hd h)
    · simp only [Act.err.injEq] at h; exact .inl h.symm
  cases s with
  | a0 d =>
    simp only [act] at h
    split at h
    · simp at h
    · cases hx : actU d k with
      | eat p => rw [hx] at h; simp [Act.more] at h
      | pop => rw [hx] at h; simp [Act.more] at h
      | err e' =>
        rw [hx] at h
        simp only [Act.more, Act.err.injEq] at h; subst h
        exact hu d hx
  | un d => exact hu d h
  | mn d =>
    simp only [act] at h
    split at h
    · simp at h
    · exact hu d h
  | ss d =>
    simp only [act] at h
    split at h
    · simp at h
    · split at h
      · split at h
        · exact .inr (hd h)
        · split at h
          · exact .inr (hd h)
          · exact .inr (hd h)
      · simp only [Act.err.injEq] at h; exact .inl h.symm
  | cl d =>
    simp only [act] at h
    split at h
    · exact .inr (hd h)
    · simp at h
  | e2 d =>
    simp only [act] at h
    split at h
    · exact .inr (hd h)
    · split at h
      · simp at h
      · simp only [Act.err.injEq] at h; exact .inl h.symm
  | _ =>
    simp only [act] at h
    repeat' split at h
    all_goals first | (simp only [Act.err.injEq] at h; exact .inl h.symm) | (simp at h)
theorem go_err {k : Bs} {e : Int} : ∀ {S : List Sy}, go S k = .err e → e = 141 ∨ e = 144
  | [], h => by
    rw [go] at h
    split at h
    · simp at h
    · split at h
      · simp at h
      · simp only [Go1.err.injEq] at h; exact .inl h.symm
  | s :: S, h => by
    rw [go] at h
    cases ha : act s k with
    | eat p => rw [ha] at h; simp at h
    | pop => rw [ha] at h; exact go_err (S := S) h
    | err e' =>
      rw [ha] at h
      simp only [Go1.err.injEq] at h; subst h
      exact act_err ha
theorem go_fin {k : Bs} : ∀ {S : List Sy}, go S k = .fin → k = k_end
  | [], h => by
    rw [go] at h
    split at h
    · assumption
    · split at h <;> simp at h
  | s :: S, h => by
    rw [go] at h
    cases ha : act s k with
    | eat p => rw [ha] at h; simp at h
    | pop => rw [ha] at h; exact go_fin (S := S) h
    | err e' => rw [ha] at h; simp at h
theorem run_split : ∀ (A : List Tk) (S : List Sy), Inv S → (∀ a ∈ A, a.err = 0 ∧ a.kind ≠ k_end) →
    (∃ e q, (∃ a ∈ A, a.at_ = q) ∧ ∀ B, run S (A ++ B) = .err e q) ∨ (∃ S', Inv S' ∧ ∀ u B, Fine u → run S (A ++ u :: B) = run S' (u :: B))
  | [], S, hi, _ => .inr ⟨S, hi, fun _ _ _ => rfl⟩
  | t :: A, S, hi, hA => by
    cases hg : go S t.kind with
    | fin => exact absurd (go_fin hg) (hA t (by simp)).2
    | err e =>
      refine .inl ⟨e, t.at_, ⟨t, by simp, rfl⟩, fun B => ?_⟩
      rw [List.cons_append, run, hg]
    | eat S' =>
      have hi' := inv_go hi hg
      cases A with
      | nil =>
        refine .inr ⟨S', hi', fun u B hu => ?_⟩
        rw [List.cons_append, List.nil_append, run_two S t u B hu, hg]
      | cons v A =>
        have hv := hA v (by simp)
        by_cases hl : v.kind = k_number ∧ v.n = -9223372036854775808 ∧ isMn S' = false
        · refine .inl ⟨143, v.at_, ⟨v, by simp, rfl⟩, fun B => ?_⟩
          rw [List.cons_append, List.cons_append, run, hg]
          simp only
          rw [if_neg (fun e => e hv.1), if_pos hl]
        · have hr : ∀ X, run S (t :: v :: X) = run S' (v :: X) := fun X => by
            rw [run, hg]
            simp only
            rw [if_neg (fun e => e hv.1), if_neg hl]
          rcases run_split (v :: A) S' hi' (fun a ha => hA a (List.mem_cons_of_mem _ ha)) with ⟨e, q, ⟨a, ha, hq⟩, h⟩ | ⟨S2, h1, h2⟩
          · exact .inl ⟨e, q, ⟨a, List.mem_cons_of_mem _ ha, hq⟩, fun B => by rw [List.cons_append, List.cons_append, hr]; exact h B⟩
          · exact .inr ⟨S2, h1, fun u B hu => by rw [List.cons_append, List.cons_append, hr]; exact h2 u B hu⟩
theorem first_fine {u : Tk} {r : List Tk} {d : Tk} (h : Fine u) : stepP false (d :: u :: r) = .ok () (u :: r) := by
  simp only [stepP]
  rw [if_neg (fun e => e h.1), if_neg (fun e => h.2 ⟨e.1, e.2.1⟩)]
theorem at_start {l : Bs} {e : Int} (h : runT l = .err e l.length) : ∃ S, At l S := by
  obtain ⟨A, t, e1, e2, e3, _⟩ := words_nl (l := l) (m := []) (l.length + 1) 0 (Nat.zero_le _) (by omega)
  have hpl := words_place (l := l) (l.length + 1) 0 (Nat.zero_le _)
  have hAp : ∀ a ∈ A, a.at_ < l.length := fun a ha => (hpl a (by rw [e1]; simp [ha])).1 (e2 a ha).2
  -- the place of the fault is the end's
  have hend : t = endT l := by
    have htp := hpl t (by rw [e1]; simp)
    refine htp.2 (Classical.byContradiction fun hk => ?_)
    have ht := htp.1 hk
    have hall : ∀ a ∈ words l (l.length + 1) 0, a.at_ < l.length := fun a ha => by
      rw [e1, List.mem_append, List.mem_singleton] at ha
      rcases ha with ha | rfl
      · exact hAp a ha
      · exact ht
    unfold runT start at h
    obtain ⟨u, r, hur⟩ : ∃ u r, words l (l.length + 1) 0 = u :: r := List.exists_cons_of_ne_nil words_ne
    rw [hur] at h hall
    have hu := hall u (by simp)
    simp only [stepP] at h
    split at h
    · simp only [Res.bind, Res.err.injEq] at h; omega
    · split at h
      · simp only [Res.bind, Res.err.injEq] at h; omega
      · obtain ⟨a, ha, hq⟩ := run_place (u :: r) S0 e l.length (by simp) h
        have := hall a ha
        omega
  subst hend
  have hw : ∀ m, words (l ++ 10 :: m) ((l ++ 10 :: m).length + 1) 0 = A ++ words (l ++ 10 :: m) (m.length + 1) (l.length + 1) := fun m => by
    obtain ⟨A2, t2, f1, f2, f3, f4⟩ := words_nl (l := l) (m := m) (l.length + 1) 0 (Nat.zero_le _) (by omega)
    rw [e1] at f1
    obtain ⟨g1, g2⟩ := List.append_inj' f1 rfl
    simp only [List.cons.injEq, and_true] at g2
    subst g1; subst g2
    exact f3 rfl _ (by rw [List.length_append, List.length_cons]; omega)
  cases A with
  | nil =>
    refine ⟨S0, inv_S0, ?_, fun m u r hur hu => ?_⟩
    · unfold runT start
      rw [e1, List.nil_append, first_fine (end_fine l)]; rfl
    · unfold runT start
      rw [hw m, List.nil_append, hur, first_fine hu]; rfl
  | cons a A =>
    have ha := e2 a (by simp)
    have hal := hAp a (by simp)
    have haf : Fine a := by
      refine ⟨ha.1, fun hl => ?_⟩
      unfold runT start at h
      rw [e1, List.cons_append] at h
      simp only [stepP] at h
      rw [if_neg (fun e => e ha.1), if_pos ⟨hl.1, hl.2, trivial⟩] at h
      simp only [Res.bind, Res.err.injEq] at h; omega
    have hr1 : runT l = run S0 (a :: A ++ [endT l]) := by
      unfold runT start
      rw [e1, List.cons_append, first_fine haf]; rfl
    have hr2 : ∀ m, runT (l ++ 10 :: m) = run S0 (a :: A ++ words (l ++ 10 :: m) (m.length + 1) (l.length + 1)) := fun m => by
      unfold runT start
      rw [hw m, List.cons_append, first_fine haf]; rfl
    rcases run_split (a :: A) S0 inv_S0 e2 with ⟨e', q, ⟨b, hb, hq⟩, hB⟩ | ⟨S', h1, h2⟩
    · rw [hr1, hB] at h
      simp only [Res.err.injEq] at h
      have := hAp b hb
      omega
    · refine ⟨S', h1, ?_, fun m u r hur hu => ?_⟩
      · rw [hr1, h2 _ _ (end_fine l)]
      · rw [hr2 m, hur, h2 _ _ hu]
theorem parse_of_run (l : Bs) : (∀ e q, runT l = .err e q → parseP l (fuelOf l) = .err e q) ∧ (∀ ts, runT l = .ok () ts → ∃ a ts, parseP l (fuelOf l) = .ok a ts) ∧ (∀ e q, parseP l (fuelOf l) = .err e q → runT l = .err e q) := by
  have h := parse_run l
  cases hp : parseP l (fuelOf l) with
  | out => have := parse_fin l; rw [hp] at this; exact this.elim
  | err e q =>
    rw [hp] at h
    change Res.err e q = _ at h
    rw [← h]
    exact ⟨fun e' q' x => by simpa using x, fun ts x => by simp at x, fun e' q' x => by simpa using x⟩
  | ok a ts =>
    rw [hp] at h
    change Res.ok () ts = _ at h
    rw [← h]
    exact ⟨fun e' q' x => by simp at x, fun ts' x => ⟨a, ts, rfl⟩, fun e' q' x => by simp at x⟩
theorem at_end {l : Bs} {S : List Sy} (h : At l S) : (∃ a ts, parseP l (fuelOf l) = .ok a ts) ∨ (parseP l (fuelOf l) = .err 141 l.length ∧ go S k_end = .err 141) := by
  have h1 := h.own
  rw [run_end] at h1
  rcases go_end S h.inv with hg | hg
  · rw [hg] at h1; exact .inl ((parse_of_run l).2.1 _ h1)
  · rw [hg] at h1; exact .inr ⟨(parse_of_run l).1 _ _ h1, hg⟩
theorem tail_next {l : Bs} {S : List Sy} (h : At l S) (hg : go S k_end = .err 141) : ∃ i S', i < 10 ∧ (∀ j, j < i → ∃ e, e ≠ 0 ∧ parseP (l ++ 10 :: clo j) (fuelOf (l ++ 10 :: clo j)) = .err e (l.length + 1)) ∧ At (l ++ 10 :: clo i) S' ∧ wt S' + 1 ≤ wt S := by
  obtain ⟨i, h1, _, h3, S', h4, h5⟩ := greedy h.inv _ hg
  refine ⟨i, S', h1, fun j hj => ?_, (at_clo h i h1).2 _ h4, h5⟩
  obtain ⟨e, he⟩ := h3 j hj
  refine ⟨e, ?_, (parse_of_run _).1 _ _ ((at_clo h j (by omega)).1 _ he)⟩
  rcases go_err he with rfl | rfl <;> decide
end Go.Tx
namespace Go.Proofs.YtfnjodpehomgfaaGreatDoor
open Go Go.Sh Go.Tx
attribute [local irreducible] Blk Ext RdS
def RdC (w : World) : Prop := RdS (fun b : Bs => [Value.string (bs b)]) 1 w (some ⟨1, 0, none⟩) CL
theorem pr_short {l : Bs} (h : l.length ≤ 16384) : PR l = parseP l (fuelOf l) := by unfold PR; rw [if_neg (by omega)]
theorem good_at {l : Bs} {S : List Sy} (h : At l S) (hl : l.length ≤ 16384) : (errOf (PR l) = 0 ∧ ∃ a ts, PR l = .ok a ts) ∨ (errOf (PR l) = 141 ∧ plcOf (PR l) = l.length ∧ go S k_end = .err 141) := by
  rw [pr_short hl]
  rcases at_end h with ⟨a, ts, h1⟩ | ⟨h1, h2⟩
  · exact .inl ⟨by rw [h1]; rfl, a, ts, h1⟩
  · exact .inr ⟨by rw [h1]; rfl, by rw [h1]; rfl, h2⟩
set_option maxHeartbeats 4000000 in
theorem closer_c (l : Bs) (S : List Sy) (w : World) (hG : Rg w) (hC : RdC w) (hl : l.length ≤ 16000) (hA : At l S) (hb : go S k_end = .err 141) :
    Cl Tryz.prog 37 #[.string (bs l)] w (fun v w' => ∃ i S', i < 10 ∧ At (l ++ 10 :: clo i) S' ∧ wt S' + 1 ≤ wt S ∧ v = .tuple #[.string (bs (10 :: clo i)), .agg #[.int .i64 (errOf (PR (l ++ 10 :: clo i))), .int .i64 (plcOf (PR (l ++ 10 :: clo i)) : Int)], .bool true] ∧ Ext w w') (fun _ _ => False) := by
  obtain ⟨i0, S', hi0, hbad, hA', hwt⟩ := tail_next hA hb
  refine calls_ex (args := [.string (bs l)]) T.ok Tryz.func37 rfl rfl rfl rfl ?_
  have H := Hp.begin nw w
  refine Sq.mk ?_
  repeat' ((conv => whnf); first | refine ztS ?_ | (refine ztB ?_ ?_ <;> intro _ <;> try (exfalso; omega)) | (refine ztW ?_; clear H; intro _ _ H _) | fail)
  ((conv => whnf); refine Al.hp H ?_; clear H; intro p3 _ H _)
  repeat' ((conv => whnf); first | refine ztS ?_ | (refine ztB ?_ ?_ <;> intro _ <;> try (exfalso; omega)) | (refine ztW ?_; clear H; intro _ _ H _) | fail)
  (conv => whnf)
  refine Ld.all (RdS.from H.e hC) ?_
  repeat' ((conv => whnf); first | refine ztS ?_ | (refine ztB ?_ ?_ <;> intro _ <;> try (exfalso; omega)) | (refine ztW ?_; clear H; intro _ _ H _) | fail)
  refine Lp.g0 T.ok (σ := Nat) (fun i => [(11, .int .i64 (i : Int)), (10, .agg (CL.map fun b => Value.string (bs b)).toArray), (3, .pointer (some ⟨p3, 0, none⟩)), (0, .string (bs l))])
    (fun i w' => i ≤ i0 ∧ Hp nw w w' [bk p3 27 [.int .i64 0, .int .i64 0]]) (fun i _ => 10 - i) 0 rfl ⟨rfl, rfl, rfl, rfl, trivial⟩ ⟨Nat.zero_le _, H⟩ ?_
  clear H
  rintro i w5 ⟨hi, H⟩
  have hlt : i < 10 := by omega
  have hcl := clo_pos i hlt
  have hx : CL[i]? = some (clo i) := by
    have : ∀ i, i < 10 → CL[i]? = some (clo i) := by decide
    exact this i hlt
  repeat' ((conv => whnf); first | refine ztS ?_ | (refine ztB ?_ ?_ <;> intro _ <;> try (exfalso; omega)) | (refine ztW ?_; clear H; intro _ _ H _) | fail)
  refine Sm.arrix T.ok (v := .string (bs (clo i))) (by simp [hx]) hlt ?_
  repeat' ((conv => whnf); first | refine ztS ?_ | (refine ztB ?_ ?_ <;> intro _ <;> try (exfalso; omega)) | (refine ztW ?_; clear H; intro _ _ H _) | fail)
  refine Sm.cat (l := [10]) (m := clo i) (by simp; omega) ?_
  repeat' ((conv => whnf); first | refine ztS ?_ | (refine ztB ?_ ?_ <;> intro _ <;> try (exfalso; omega)) | (refine ztW ?_; clear H; intro _ _ H _) | fail)
  refine Sm.cat (l := l) (m := 10 :: clo i) (by simp; omega) ?_
  repeat' ((conv => whnf); first | refine ztS ?_ | (refine ztB ?_ ?_ <;> intro _ <;> try (exfalso; omega)) | (refine ztW ?_; clear H; intro _ _ H _) | fail)
  ((conv => whnf); refine Cl.mk (Parse_c (l ++ 10 :: clo i) _ (hG.ext H.e)) ?_)
  intro v2 w2 q2
  obtain ⟨m2, A2, c2, e2, rfl, l2, H'⟩ := okq q2
  clear q2
  replace H := H.fr0L H' (fun c hc => by simp only [List.mem_cons, List.not_mem_nil, or_false] at hc; rcases hc with rfl | rfl <;> exact .inl rfl)
  clear H'
  have hlen : (l ++ 10 :: clo i).length = l.length + 1 + (clo i).length := by simp; omega
  have hlen2 : (bs (10 :: clo i)).size = 1 + (clo i).length := by rw [bs_size]; simp; omega
  have hlenl := bs_size l
  generalize hE : errOf (PR (l ++ 10 :: clo i)) = E at *
  generalize hP : plcOf (PR (l ++ 10 :: clo i)) = Pp at *
  have hcase : (i < i0 ∧ E ≠ 0 ∧ Pp = l.length + 1) ∨ (i = i0 ∧ (E = 0 ∨ E = 141 ∧ Pp = l.length + 1 + (clo i).length)) := by
    by_cases hii : i = i0
    · refine .inr ⟨hii, ?_⟩
      subst hii
      rcases good_at hA' (by omega) with ⟨g1, _⟩ | ⟨g1, g2, _⟩
      · exact .inl (by rw [← hE]; exact g1)
      · exact .inr ⟨by rw [← hE]; exact g1, by rw [← hP, g2, hlen]⟩
    · obtain ⟨e, he0, hpe⟩ := hbad i (by omega)
      refine .inl ⟨by omega, ?_, ?_⟩
      · rw [← hE, pr_short (by omega), hpe]; exact he0
      · rw [← hP, pr_short (by omega), hpe]; rfl
  have hwrap : IntKind.i64.wrap (((bs l).size : Int) + ((bs ([10] ++ clo i)).size : Int)) = ((l.length + 1 + (clo i).length : Nat) : Int) := by
    have h1 : (bs ([10] ++ clo i)).size = 1 + (clo i).length := hlen2
    rw [hlenl, h1]
    simp [IntKind.wrap, IntKind.signed, IntKind.bits] <;> omega
  clear hbad
  repeat' ((conv => whnf); first | refine ztS ?_ | (refine ztB ?_ ?_ <;> intro _ <;> try (exfalso; omega)) | (refine ztW ?_; clear H; intro _ _ H _) | fail)
  ((conv => whnf); refine Al.hp H ?_; clear H; intro p5 _ H _)
  ((conv => whnf); refine Al.hp H ?_; clear H; intro p6 _ H _)
  repeat' ((conv => whnf); first | refine ztS ?_ | (refine ztB ?_ ?_ <;> intro _ <;> try (exfalso; omega)) | (refine ztW ?_; clear H; intro _ _ H _) | fail)
  all_goals first | (exfalso; omega) | skip
  rotate_left 2
  iterate 2
    · repeat' ((conv => whnf); first | refine ztS ?_ | (refine ztB ?_ ?_ <;> intro _ <;> try (exfalso; omega)) | (refine ztW ?_; clear H; intro _ _ H _) | fail)
      exact ⟨i + 1, ⟨at_int (m := ((i + 1 : Nat) : Int)) rfl (w64 (by simp) (by omega) (by omega)), rfl, rfl, rfl, trivial⟩, rfl, ⟨by omega, H.sel [4] rfl⟩, by omega⟩
  all_goals
    (have hii : i = i0 := by omega)
    subst hii
    (conv => whnf)
    refine Dr.ch T.ok mixed [0, 1, 2] [3, 4] (by kernel_rfl) rfl rfl (fun w' => Blk w' p6 27 [.int .i64 E, .int .i64 (Pp : Int)]) (fun w1 eT _ => ?_)
    replace H := H.ext eT
    repeat' ((conv => whnf); first | refine QLd1.own (fun _ hw => hw) ?_ | refine QLd.own (fun _ hw => hw) ?_)
    (conv => whnf)
    refine ⟨H.blk 0 rfl, ?_⟩
    refine St.h H (fun w2 H => ?_)
    (conv => whnf)
    refine ⟨H.blk 0 rfl, ?_⟩
    repeat' ((conv => whnf); first | refine ztS ?_ | (refine ztB ?_ ?_ <;> intro _ <;> try (exfalso; omega)) | (refine ztA ?_; clear H; intro _ _ H _) | fail)
    exact ⟨i, S', hi0, hA', hwt, by rw [hE, hP]; rfl, H.e⟩
theorem pr_err {l : Bs} {q : Nat} (h1 : errOf (PR l) = 141) (h2 : plcOf (PR l) = q) : PR l = .err 141 q := by
  cases hR : PR l with
  | out => rw [hR] at h1; exact absurd (show (0 : Int) = 141 from h1) (by decide)
  | ok a ts => rw [hR] at h1; exact absurd (show (0 : Int) = 141 from h1) (by decide)
  | err e p =>
    rw [hR] at h1 h2
    have h1 : e = 141 := h1
    have h2 : p = q := h2
    rw [h1, h2]
def TailIs (l tl : Bs) (e : Int) : Prop :=
  (8192 < l.length ∧ tl = [] ∧ e = 2) ∨ (l.length ≤ 8192 ∧ ¬ (errOf (PR l) = 141 ∧ plcOf (PR l) = l.length) ∧ tl = [] ∧ e = errOf (PR l)) ∨
  (l.length ≤ 8192 ∧ errOf (PR l) = 141 ∧ plcOf (PR l) = l.length ∧ e = 0 ∧ tl.length ≤ 8192 ∧ errOf (PR (l ++ tl)) = 0 ∧ ∃ a ts, PR (l ++ tl) = .ok a ts)
set_option maxHeartbeats 4000000 in
theorem tail_c (l : Bs) (w : World) (hG : Rg w) (hC : RdC w) :
    Cl Tryz.prog 15 #[.string (bs l)] w (fun v w' => ∃ tl e, TailIs l tl e ∧ v = .tuple #[.string (bs tl), .int .i64 e] ∧ Ext w w') (fun _ _ => False) := by
  refine calls_ex (args := [.string (bs l)]) T.ok Tryz.func15 rfl rfl rfl rfl ?_
  have H := Hp.begin nw w
  have hlenl := bs_size l
  by_cases hlong : 8192 < l.length
  · repeat' ((conv => whnf); first | refine ztS ?_ | (refine ztB ?_ ?_ <;> intro _ <;> try (exfalso; omega)) | (refine ztW ?_; clear H; intro _ _ H _) | fail)
    all_goals first | (exfalso; omega) | skip
    exact ⟨[], 2, .inl ⟨hlong, rfl, rfl⟩, rfl, H.e⟩
  have hl : l.length ≤ 8192 := by omega
  repeat' ((conv => whnf); first | refine ztS ?_ | (refine ztB ?_ ?_ <;> intro _ <;> try (exfalso; omega)) | (refine ztW ?_; clear H; intro _ _ H _) | fail)
  all_goals first | (exfalso; omega) | skip
  ((conv => whnf); refine Cl.mk (Parse_c l _ (hG.ext H.e)) ?_)
  intro v2 w2 q2
  obtain ⟨m2, A2, c2, e2, rfl, l2, H'⟩ := okq q2
  clear q2
  replace H := H.fr0L H' (fun c hc => by simp only [List.mem_cons, List.not_mem_nil, or_false] at hc; rcases hc with rfl | rfl <;> exact .inl rfl)
  clear H'
  obtain ⟨E, hE⟩ : ∃ E, E = errOf (PR l) := ⟨_, rfl⟩
  obtain ⟨Pp, hP⟩ : ∃ P, P = plcOf (PR l) := ⟨_, rfl⟩
  rw [← hE, ← hP]
  repeat' ((conv => whnf); first | refine ztS ?_ | (refine ztB ?_ ?_ <;> intro _ <;> try (exfalso; omega)) | (refine ztW ?_; clear H; intro _ _ H _) | fail)
  ((conv => whnf); refine Al.hp H ?_; clear H; intro p4 _ H _)
  ((conv => whnf); refine Al.hp H ?_; clear H; intro p5 _ H _)
  repeat' ((conv => whnf); first | refine ztS ?_ | (refine ztB ?_ ?_ <;> intro _ <;> try (exfalso; omega)) | (refine ztW ?_; clear H; intro _ _ H _) | fail)
  · have h0 : E = 0 := by assumption
    repeat' ((conv => whnf); first | refine ztS ?_ | (refine ztB ?_ ?_ <;> intro _ <;> try (exfalso; omega)) | (refine ztW ?_; clear H; intro _ _ H _) | fail)
    refine ⟨[], 0, .inr (.inl ⟨hl, ?_, rfl, by rw [← hE, h0]⟩), rfl, H.e⟩
    rintro ⟨h1, _⟩
    rw [← hE] at h1
    omega
  · have h0 : E ≠ 141 := by assumption
    ((conv => whnf); refine Dr.quiet T.ok mixed (by kernel_rfl) (fun W hW => ?_))
    repeat' ((conv => whnf); first | refine ztQ ?_ | (refine ztB ?_ ?_ <;> intro _ <;> try (exfalso; omega)) | fail)
    intro w9 ex9
    replace H := H.ext ex9
    repeat' ((conv => whnf); first | refine ztS ?_ | (refine ztB ?_ ?_ <;> intro _ <;> try (exfalso; omega)) | (refine ztW ?_; clear H; intro _ _ H _) | fail)
    refine ⟨[], E, .inr (.inl ⟨hl, ?_, rfl, hE⟩), rfl, H.e⟩
    rintro ⟨h1, _⟩
    rw [← hE] at h1
    omega
  · have h0 : (Pp : Int) ≠ ((bs l).size : Int) := by assumption
    ((conv => whnf); refine Dr.quiet T.ok mixed (by kernel_rfl) (fun W hW => ?_))
    repeat' ((conv => whnf); first | refine ztQ ?_ | (refine ztB ?_ ?_ <;> intro _ <;> try (exfalso; omega)) | fail)
    intro w9 ex9
    replace H := H.ext ex9
    repeat' ((conv => whnf); first | refine ztS ?_ | (refine ztB ?_ ?_ <;> intro _ <;> try (exfalso; omega)) | (refine ztW ?_; clear H; intro _ _ H _) | fail)
    refine ⟨[], E, .inr (.inl ⟨hl, ?_, rfl, hE⟩), rfl, H.e⟩
    rintro ⟨_, h1⟩
    rw [← hP] at h1
    omega
  · have h0 : E = 141 := by assumption
    have h1 : (Pp : Int) = ((bs l).size : Int) := by assumption
    have hPl : Pp = l.length := by omega
    have hR := pr_err (l := l) (q := l.length) (by rw [← hE]; exact h0) (by rw [← hP]; exact hPl)
    have hR2 := hR
    rw [pr_short (by omega)] at hR2
    obtain ⟨S, hA⟩ := at_start ((parse_of_run l).2.2 _ _ hR2)
    have hwt := inv_wt hA.inv
    have hf0 : ∀ w', Hp nw w w' (bk p5 27 (putL T.t27.zero.cells.toList 0 (Value.agg #[Value.int IntKind.i64 E, Value.int IntKind.i64 (Pp : Int)]).cells.toList) :: bk p4 24 (putL T.t24.zero.cells.toList 0 (Value.agg #[Value.slice A2 m2.length c2]).cells.toList) :: ([qu FM.enc 3 34 A2 c2 m2, fns m2] ++ [])) → Hp nw w w' [bk p5 27 [.int .i64 E, .int .i64 (Pp : Int)]] := fun _ h => h.sel [0] rfl
    replace H := hf0 _ H
    clear hf0
    refine Lp.g0 T.ok (σ := Bs × List Sy) (fun s => [(6, .string (bs s.1)), (5, .pointer (some ⟨p5, 0, none⟩)), (0, .string (bs l))])
      (fun s w' => At (l ++ s.1) s.2 ∧ s.1.length + 3 * wt s.2 ≤ 5010 ∧ Hp nw w w' [bk p5 27 [.int .i64 (errOf (PR (l ++ s.1))), .int .i64 (plcOf (PR (l ++ s.1)) : Int)]]) (fun s _ => wt s.2) ([], S) rfl ⟨rfl, rfl, rfl, trivial⟩ ⟨by rw [List.append_nil]; exact hA, by simp only [List.length_nil]; omega, by rw [List.append_nil, ← hE, ← hP]; exact H⟩ ?_
    clear H
    rintro ⟨tl, S1⟩ w5 ⟨hA1, hb1, H⟩
    replace hA1 : At (l ++ tl) S1 := hA1
    replace hb1 : tl.length + 3 * wt S1 ≤ 5010 := hb1
    dsimp only at H
    have hlt : (l ++ tl).length ≤ 13300 := by rw [List.length_append]; omega
    rcases good_at hA1 (by omega) with ⟨g1, g2⟩ | ⟨g1, g2, g3⟩
    · have hz : errOf (PR (l ++ tl)) = 0 := g1
      repeat' ((conv => whnf); first | refine ztS ?_ | (refine ztB ?_ ?_ <;> intro _ <;> try (exfalso; omega)) | (refine ztW ?_; clear H; intro _ _ H _) | fail)
      all_goals first | (exfalso; exact absurd hz (by assumption)) | skip
      exact ⟨tl, 0, .inr (.inr ⟨hl, by rw [← hE]; exact h0, by rw [← hP]; exact hPl, rfl, by omega, g1, g2⟩), rfl, H.e⟩
    · repeat' ((conv => whnf); first | refine ztS ?_ | (refine ztB ?_ ?_ <;> intro _ <;> try (exfalso; omega)) | (refine ztW ?_; clear H; intro _ _ H _) | fail)
      all_goals first | (exfalso; omega) | skip
      refine Sm.cat (l := l) (m := tl) (by rw [← List.length_append]; omega) ?_
      repeat' ((conv => whnf); first | refine ztS ?_ | (refine ztB ?_ ?_ <;> intro _ <;> try (exfalso; omega)) | (refine ztW ?_; clear H; intro _ _ H _) | fail)
      ((conv => whnf); refine Cl.mk (closer_c (l ++ tl) S1 _ (hG.ext H.e) (RdS.from H.e hC) (by omega) hA1 g3) ?_)
      rintro _ w6 ⟨i, S2, hi, hA2, hw2, rfl, ex⟩
      replace H := H.ext ex
      clear ex
      have hcl := clo_pos i hi
      repeat' ((conv => whnf); first | refine ztS ?_ | (refine ztB ?_ ?_ <;> intro _ <;> try (exfalso; omega)) | (refine ztW ?_; clear H; intro _ _ H _) | fail)
      ((conv => whnf); refine Al.hp H ?_; clear H; intro p8 _ H _)
      repeat' ((conv => whnf); first | refine ztS ?_ | (refine ztB ?_ ?_ <;> intro _ <;> try (exfalso; omega)) | (refine ztW ?_; clear H; intro _ _ H _) | fail)
      refine Sm.cat (l := tl) (m := 10 :: clo i) (by simp; omega) ?_
      repeat' ((conv => whnf); first | refine ztS ?_ | (refine ztB ?_ ?_ <;> intro _ <;> try (exfalso; omega)) | (refine ztW ?_; clear H; intro _ _ H _) | fail)
      refine ⟨(tl ++ 10 :: clo i, S2), ⟨rfl, rfl, rfl, trivial⟩, rfl, ⟨?_, ?_, ?_⟩, ?_⟩
      · show At (l ++ (tl ++ 10 :: clo i)) S2
        rw [← List.append_assoc]; exact hA2
      · show (tl ++ 10 :: clo i).length + 3 * wt S2 ≤ 5010
        rw [List.length_append, List.length_cons]; omega
      · show Hp nw w _ [bk p5 27 [.int .i64 (errOf (PR (l ++ (tl ++ 10 :: clo i)))), .int .i64 (plcOf (PR (l ++ (tl ++ 10 :: clo i))) : Int)]]
        rw [← List.append_assoc]
        exact H.sel [1] rfl
      · show wt S2 < wt S1
        omega
end Go.Proofs.YtfnjodpehomgfaaGreatDoor
namespace Go.Tx
abbrev It := Bs × Bs
def rnd (l : List It) : Bs := l.flatMap fun x => x.1 ++ x.2
theorem rnd_cons (x : It) (b : List It) : rnd (x :: b) = x.1 ++ (x.2 ++ rnd b) := by simp [rnd]
theorem rnd_nil : rnd [] = [] := rfl
def itPar (b : Bool) (f : Bs → List It) (g : Bs) : List It := if b = true then (g, s_lp) :: (f [] ++ [([], s_rp)]) else f g
def itRest : List (Bs → List It) → List It
  | [] => []
  | f :: r => ([], s_comma) :: (f [32] ++ itRest r)
def itArgs : List (Bs → List It) → List It
  | [] => []
  | f :: r => f [] ++ itRest r
def kidI (fs : List (Bs → List It)) (i : Nat) : Bs → List It := fs.getD i (fun _ => [])
def itN (kd o n : Int) (nm cb : Bs) (ks : List Ex) (fs : List (Bs → List It)) (g : Bs) : List It :=
  if (sgK kd o).1 ≠ [] then itPar (decide ((sgE (ks.getD 0 .zero)).2 < (sgK kd o).2)) (kidI fs 0) g ++ ([32], (sgK kd o).1) :: itPar (decide ((sgE (ks.getD 1 .zero)).2 ≤ (sgK kd o).2)) (kidI fs 1) [32]
  else if kd = 0 then (if n < 0 then [(g, s_minus), ([], Go.Lib.decDigits n.natAbs)] else [(g, Go.Lib.decDigits n.natAbs)])
  else if kd = 1 then [(g, nm)]
  else if kd = 2 then (g, s_minus) :: itPar (decide ((sgE (ks.getD 0 .zero)).1 ≠ []) || posB (ks.getD 0 .zero)) (kidI fs 0) []
  else if kd = 3 then (g, s_bang) :: itPar (decide ((sgE (ks.getD 0 .zero)).1 ≠ [])) (kidI fs 0) []
  else if kd = 4 then (g, opNm o) :: ([], s_lp) :: (itArgs fs ++ [([], s_rp)])
  else if kd = 5 then (g, nm) :: ([], s_lp) :: (itArgs fs ++ [([], s_rp)])
  else if kd = 6 then (g, k_reduce) :: ([], s_lp) :: ([], nm) :: ([], s_comma) :: ([32], cb) :: (itRest fs ++ [([], s_rp)])
  else (g, k_each) :: ([], s_lp) :: ([], nm) :: (itRest fs ++ [([], s_rp)])
mutual
def itE : Ex → Bs → List It
  | .mk kd o n nm cb ks => itN kd o n nm cb ks (itEs ks)
def itEs : List Ex → List (Bs → List It)
  | [] => []
  | e :: r => itE e :: itEs r
end
end Go.Tx
namespace Go.Tx
def Rz {α : Type} (N : Prop) (r r' : Res α) : Prop := r = .out ∨ r = r' ∨ (¬ N ∧ ∃ e p, r = .err e p)
theorem Rz.rfl' {α : Type} {N : Prop} {r : Res α} : Rz N r r := .inr (.inl rfl)
theorem Rz.bind {α β : Type} {N1 N2 N : Prop} {r : Res α} {k : α → List Tk → Res β} {a : α} {ts : List Tk} {r' : Res β} (h : Rz N1 r (.ok a ts)) (hN1 : N → N1) (hk : Rz N2 (k a ts) r') (hN2 : N → N2) : Rz N (r.bind k) r' := by
  rcases h with h | h | ⟨h, e, p, he⟩
  · rw [h]; exact .inl rfl
  · rw [h]
    rcases hk with hk | hk | ⟨hk, e, p, he⟩
    · exact .inl hk
    · exact .inr (.inl hk)
    · exact .inr (.inr ⟨fun n => hk (hN2 n), e, p, he⟩)
  · rw [he]; exact .inr (.inr ⟨fun n => h (hN1 n), e, p, rfl⟩)
theorem Rz.mono {α : Type} {N N' : Prop} {r r' : Res α} (h : Rz N r r') (hN : N' → N) : Rz N' r r' := by
  rcases h with h | h | ⟨h, e, p, he⟩
  · exact .inl h
  · exact .inr (.inl h)
  · exact .inr (.inr ⟨fun n => h (hN n), e, p, he⟩)
theorem Rz.deep {β : Type} {N N2 : Prop} {d : Nat} {ts : List Tk} {k : List Tk → Res β} {r' : Res β} (hN : N → d ≤ 40) (hk : Rz N2 (k ts) r') (hN2 : N → N2) : Rz N ((deepP d ts).bind fun _ ts => k ts) r' := by
  unfold deepP
  split
  · exact .inr (.inr ⟨fun n => by have := hN n; omega, 144, _, rfl⟩)
  · exact hk.mono hN2
def tkP (x : Bs) (p : Nat) : Tk := match x with
  | [] => ⟨[], [], p, 0, 0⟩
  | c :: r => if letter c = true then named (c :: r) p else if digit c = true then number (c :: r) p else ⟨c :: r, c :: r, p, 0, 0⟩
def MT : List It → List Tk → List Tk → Prop
  | [], ts, rest => ts = rest
  | x :: l, ts, rest => ∃ p ts', ts = tkP x.2 p :: ts' ∧ MT l ts' rest
theorem MT.app : ∀ {a b : List It} {ts rest : List Tk}, MT (a ++ b) ts rest → ∃ mid, MT a ts mid ∧ MT b mid rest
  | [], b, ts, rest, h => ⟨ts, rfl, h⟩
  | x :: a, b, ts, rest, h => by
    obtain ⟨p, ts', h1, h2⟩ := h
    obtain ⟨mid, h3, h4⟩ := MT.app h2
    exact ⟨mid, ⟨p, ts', h1, h3⟩, h4⟩
theorem MT.len : ∀ {a : List It} {ts rest : List Tk}, MT a ts rest → ts.length = a.length + rest.length
  | [], ts, rest, h => by rw [show ts = rest from h]; simp
  | x :: a, ts, rest, h => by
    obtain ⟨p, ts', h1, h2⟩ := h
    rw [h1, List.length_cons, MT.len h2, List.length_cons]; omega
theorem name_tk {s : Bs} (h : isNameB s = true) (p : Nat) : tkP s p = ⟨k_name, s, p, 0, 0⟩ := by
  unfold isNameB at h
  simp only [Bool.and_eq_true, Bool.not_eq_true', Bool.or_eq_false_iff, decide_eq_false_iff_not, List.all_eq_true, List.mem_range] at h
  obtain ⟨⟨⟨h1, h2⟩, h3⟩, h4⟩ := h
  match s, h1 with
  | c :: r, _ =>
    have hc : letter c = true := by
      have := h4 0 (by simp)
      simpa [nmB] using this
    simp only [tkP]
    rw [if_pos hc]
    unfold named
    rw [h3, if_neg (by simp), if_neg h2]
theorem dec_tk {m : Nat} (h : m ≤ 9223372036854775808) (p : Nat) : tkP (Go.Lib.decDigits m) p = numT m p := by
  have hd := dec_dig m
  have hn := dec_ne m
  rw [← number_dec h]
  cases hx : Go.Lib.decDigits m with
  | nil => exact absurd hx hn
  | cons c r =>
    have hc : digit c = true := hd c (by rw [hx]; simp)
    simp only [tkP]
    rw [if_neg (by rw [(dig_not hc).1]; simp), if_pos hc]
theorem sgn_tk {s : Bs} {i : Nat} (h : standsB i s = true) (p : Nat) : tkP s p = ⟨s, s, p, 0, 0⟩ := by
  obtain ⟨_, l, h2, h3⟩ := stands_lt h
  have key : (levels.all fun l => l.all fun s => match s with | [] => false | c :: _ => !letter c && !digit c) = true := by decide
  have := List.all_eq_true.1 (List.all_eq_true.1 key l (List.mem_of_getElem? h2)) s h3
  match s, this with
  | c :: r, this =>
    simp only [Bool.and_eq_true, Bool.not_eq_true'] at this
    simp only [tkP, this]
    rfl
theorem stands_one {s : Bs} {i j : Nat} (h : standsB i s = true) (hj : j ≠ i) : standsB j s = false := by
  obtain ⟨h1, l, h2, h3⟩ := stands_lt h
  cases hs : standsB j s with
  | false => rfl
  | true =>
    obtain ⟨g1, l', g2, g3⟩ := stands_lt hs
    have key : ((List.range 8).all fun i => (List.range 8).all fun j => decide (i = j) || ((levels[i]?.getD []).all fun s => !((levels[j]?.getD []).contains s))) = true := by decide
    have := List.all_eq_true.1 (List.all_eq_true.1 key i (List.mem_range.2 h1)) j (List.mem_range.2 g1)
    simp only [Bool.or_eq_true, decide_eq_true_eq] at this
    rcases this with this | this
    · exact absurd this.symm hj
    · have := List.all_eq_true.1 this s (by rw [h2]; exact h3)
      rw [g2] at this
      simp only [Option.getD_some, Bool.not_eq_true'] at this
      rw [List.contains_iff_mem.2 g3] at this
      cases this
theorem sg_stands {kd o : Int} {s : Bs} {lv : Nat} (h : sgK kd o = (s, lv)) (hs : s ≠ []) : standsB lv s = true ∧ s = sgS kd o := by
  have key : ∀ (t : Bs) (l : List (List Bs)) (i : Nat), lvAux t l i = (s, lv) → ∃ k, lv = i + k ∧ ∃ x, l[k]? = some x ∧ x.contains s = true ∧ s = t := by
    intro t l
    induction l with
    | nil => intro i h; simp only [lvAux, Prod.mk.injEq] at h; exact absurd h.1.symm hs
    | cons x r ih =>
      intro i h
      unfold lvAux at h
      split at h
      · rename_i hc
        simp only [Prod.mk.injEq] at h
        obtain ⟨rfl, rfl⟩ := h
        exact ⟨0, rfl, x, rfl, hc, rfl⟩
      · obtain ⟨k, hk, y, hy, hc, ht⟩ := ih (i + 1) h
        exact ⟨k + 1, by omega, y, hy, hc, ht⟩
  obtain ⟨k, hk, x, hx, hc, ht⟩ := key (sgS kd o) levels 0 h
  have hk : lv = k := by omega
  subst hk
  refine ⟨?_, ht⟩
  unfold standsB
  rw [hx]
  exact hc
def Hd (ts : List Tk) : Prop := ∃ u r, ts = u :: r ∧ Fine u
def NX (ts : List Tk) : Prop := ∃ u r, ts = u :: r ∧ Fine u ∧ u.kind ≠ s_lp
def NS (lv : Nat) (ts : List Tk) : Prop := ∀ j, lv ≤ j → standsB j (curK ts) = false
theorem NX.hd {ts : List Tk} (h : NX ts) : Hd ts := by obtain ⟨u, r, h1, h2, _⟩ := h; exact ⟨u, r, h1, h2⟩
theorem step_hd {t : Tk} {ts : List Tk} (m : Bool) (h : Hd ts) : stepP m (t :: ts) = .ok () ts := by
  obtain ⟨u, r, rfl, h1, h2⟩ := h
  exact step_ok h1 fun e => h2 ⟨e.1, e.2.1⟩
theorem take_hd {k : Bs} {t : Tk} {ts : List Tk} (hk : t.kind = k) (h : Hd ts) : takeP k (t :: ts) = .ok t ts := by
  unfold takeP
  rw [if_neg (fun e => e hk), step_hd false h]
  rfl
theorem plain_fine {k t : Bs} {p : Nat} (h : k ≠ k_number) : Fine ⟨k, t, p, 0, 0⟩ := ⟨rfl, fun e => h e.1⟩
theorem up8 {N : Prop} {d : Nat} {ts rest : List Tk} {e : Ex} (h : ∀ n, Rz N ((pf n).unary d ts) (.ok e rest)) : ∀ m lv n, lv + m = 8 → NS lv rest → Rz N ((pf n).expr lv d ts) (.ok e rest)
  | 0, lv, 0, _, _ => .inl rfl
  | m + 1, lv, 0, _, _ => .inl rfl
  | 0, lv, n + 1, hm, _ => by
    have : lv = 8 := by omega
    subst this
    show Rz N (exprP (pf n) 8 d ts) _
    unfold exprP
    rw [if_pos rfl]
    exact h n
  | m + 1, lv, n + 1, hm, hs => by
    show Rz N (exprP (pf n) lv d ts) _
    unfold exprP
    rw [if_neg (by omega)]
    refine Rz.bind (up8 h m (lv + 1) n (by omega) fun j hj => hs j (by omega)) id (N2 := True) ?_ (fun _ => trivial)
    show Rz True (loopE (pf n) lv d (rest.length + 1) e rest) _
    unfold loopE
    rw [hs lv (Nat.le_refl _), if_neg (by simp)]
    exact Rz.rfl'
def UC (e : Ex) : Prop := ∀ n d g ts rest, NX rest → MT (itE e g) ts rest → Rz (nstE e d) ((pf n).unary d ts) (.ok e rest)
def XC (e : Ex) : Prop := ∀ n d lv g ts rest, lv ≤ (sgE e).2 → lv ≤ 8 → NX rest → NS lv rest → MT (itE e g) ts rest → Rz (nstE e d) ((pf n).expr lv d ts) (.ok e rest)
def LC (e : Ex) : Prop := ∀ n d s g ts rest, s ≤ (sgE e).2 → s < 8 → NX rest → NS (s + 1) rest → MT (itE e g) ts rest → ∃ k, rest.length < k ∧ Rz (nstE e d) (exprP (pf n) s d ts) (loopE (pf n) s d k e rest)
def LE (e : Ex) : Prop := ∀ n d g ts rest, (sgE e).2 < 8 → NX rest → NS ((sgE e).2 + 1) rest → MT (itE e g) ts rest → ∃ k, rest.length < k ∧ Rz (nstE e d) (exprP (pf n) (sgE e).2 d ts) (loopE (pf n) (sgE e).2 d k e rest)
theorem XC.of {e : Ex} (hu : (sgE e).2 = 8 → UC e) (h8 : (sgE e).2 ≤ 8) (hl : LE e) : XC e := by
  intro n d lv g ts rest h1 h2 hx hs hm
  by_cases hk : (sgE e).2 = 8
  · exact up8 (fun n => hu hk n d g ts rest hx hm) (8 - lv) lv n (by omega) hs
  · have key : ∀ m lv n, lv + m = (sgE e).2 → NS lv rest → Rz (nstE e d) ((pf n).expr lv d ts) (.ok e rest) := by
      intro m
      induction m with
      | zero =>
        intro lv n hm' hs
        cases n with
        | zero => exact .inl rfl
        | succ n =>
          have hlv : lv = (sgE e).2 := by omega
          subst hlv
          obtain ⟨k, hk2, hr⟩ := hl n d g ts rest (by omega) hx (fun j hj => hs j (by omega)) hm
          show Rz (nstE e d) (exprP (pf n) (sgE e).2 d ts) _
          have hlo : loopE (pf n) (sgE e).2 d k e rest = .ok e rest := by
            obtain ⟨k, rfl⟩ : ∃ k', k = k' + 1 := ⟨k - 1, by omega⟩
            unfold loopE
            rw [hs _ (Nat.le_refl _), if_neg (by simp)]
          rw [hlo] at hr
          exact hr
      | succ m ih =>
        intro lv n hm' hs
        cases n with
        | zero => exact .inl rfl
        | succ n =>
          show Rz (nstE e d) (exprP (pf n) lv d ts) _
          unfold exprP
          rw [if_neg (by omega)]
          refine Rz.bind (ih (lv + 1) n (by omega) fun j hj => hs j (by omega)) id (N2 := True) ?_ (fun _ => trivial)
          show Rz True (loopE (pf n) lv d (rest.length + 1) e rest) _
          unfold loopE
          rw [hs lv (Nat.le_refl _), if_neg (by simp)]
          exact Rz.rfl'
    exact key ((sgE e).2 - lv) lv n (by omega) hs
theorem LC.of {e : Ex} (hx : XC e) (hl : LE e) (h8 : (sgE e).2 ≤ 8) : LC e := by
  intro n d s g ts rest h1 h2 hn hs hm
  by_cases he : s = (sgE e).2
  · subst he
    exact hl n d g ts rest h2 hn hs hm
  · refine ⟨rest.length + 1, by omega, ?_⟩
    unfold exprP
    rw [if_neg (by omega)]
    refine Rz.bind (hx n d (s + 1) g ts rest (by omega) (by omega) hn hs hm) id (N2 := True) ?_ (fun _ => trivial)
    exact Rz.rfl'
end Go.Tx
namespace Go.Tx
theorem sg_le (e : Ex) : (sgE e).2 ≤ 8 := by
  by_cases h : (sgE e).1 ≠ []
  · exact Nat.le_of_lt (sg_lv h)
  · obtain ⟨kd, o, n, nm, cb, ks⟩ := e
    rcases sg_nil8 (sgS kd o) with h1 | h1
    · exact absurd h1 h
    · show (sgn2 (sgS kd o)).2 ≤ 8
      rw [h1]; decide
theorem sg8 {e : Ex} (h : ¬ (sgE e).1 ≠ []) : sgE e = ([], 8) := by
  obtain ⟨kd, o, n, nm, cb, ks⟩ := e
  rcases sg_nil8 (sgS kd o) with h1 | h1
  · exact absurd h1 h
  · exact h1
theorem minmax {o : Int} (h1 : opNm o ≠ []) (h2 : ¬ (sgK 4 o).1 ≠ []) : (opNm o = k_min ∨ opNm o = k_max) ∧ findOp (opNm o) = o := by
  unfold opNm at h1
  split at h1
  · rename_i h
    obtain ⟨k, rfl⟩ : ∃ k : Nat, o = (k : Int) := ⟨o.toNat, by omega⟩
    have hk : k < 16 := by omega
    have key : ((List.range 16).all fun k => decide ((sgK 4 (k : Int)).1 ≠ []) || ((decide (opNm (k : Int) = k_min) || decide (opNm (k : Int) = k_max)) && decide (findOp (opNm (k : Int)) = (k : Int)))) = true := by decide
    have := List.all_eq_true.1 key k (List.mem_range.2 hk)
    simp only [Bool.or_eq_true, Bool.and_eq_true, decide_eq_true_eq] at this
    rcases this with this | this
    · exact absurd this h2
    · exact this
  · exact absurd rfl h1
theorem find_sgn {o : Int} {s : Bs} {lv : Nat} (h : sgK 4 o = (s, lv)) (hs : s ≠ []) : s = opNm o ∧ findOp s = o ∧ s ≠ s_andd ∧ s ≠ s_orr := by
  have hst := (sg_stands h hs).2
  have h4 : sgS 4 o = opNm o := rfl
  rw [h4] at hst
  subst hst
  unfold opNm at hs
  split at hs
  · rename_i h
    obtain ⟨k, rfl⟩ : ∃ k : Nat, o = (k : Int) := ⟨o.toNat, by omega⟩
    have hk : k < 16 := by omega
    have key : ((List.range 16).all fun k => decide (findOp (opNm (k : Int)) = (k : Int)) && decide (opNm (k : Int) ≠ s_andd) && decide (opNm (k : Int) ≠ s_orr)) = true := by decide
    have := List.all_eq_true.1 key k (List.mem_range.2 hk)
    simp only [Bool.and_eq_true, decide_eq_true_eq] at this
    exact ⟨rfl, this.1.1, this.1.2, this.2⟩
  · exact absurd rfl hs
theorem join_sg {kd o : Int} {s : Bs} {lv : Nat} {nm cb : Bs} (x y : Ex) (h : sgK kd o = (s, lv)) (hs : s ≠ []) {n : Int} (hh : hdB kd o n nm cb 2 = true) : joinP s x y = .mk kd o n nm cb [x, y] := by
  have hk : kd = 8 ∨ kd = 9 ∨ kd = 4 := by
    by_cases h8 : kd = 8
    · exact .inl h8
    · by_cases h9 : kd = 9
      · exact .inr (.inl h9)
      · by_cases h4 : kd = 4
        · exact .inr (.inr h4)
        · have := (sg_stands h hs).2
          unfold sgS at this
          rw [if_neg h8, if_neg h9, if_neg h4] at this
          exact absurd this hs
  rcases hk with rfl | rfl | rfl
  · have := (sg_stands h hs).2
    have this : s = s_andd := this
    subst this
    simp [hdB] at hh
    obtain ⟨⟨⟨rfl, rfl⟩, rfl⟩, rfl⟩ := hh
    rfl
  · have := (sg_stands h hs).2
    have this : s = s_orr := this
    subst this
    simp [hdB] at hh
    obtain ⟨⟨⟨rfl, rfl⟩, rfl⟩, rfl⟩ := hh
    rfl
  · obtain ⟨h1, h2, h3, h4⟩ := find_sgn h hs
    simp [hdB] at hh
    obtain ⟨⟨⟨_, rfl⟩, rfl⟩, rfl⟩ := hh
    unfold joinP
    rw [if_neg h3, if_neg h4, h2]
theorem itE_hd : ∀ (e : Ex) (g : Bs) (ts rest : List Tk), exB e = true → rgE e → MT (itE e g) ts rest → Hd ts ∧ (posB e = false → (sgE e).1 = [] → curK ts ≠ k_number)
  | .mk kd o n nm cb ks, g, ts, rest, hb, hr, hm => by
    simp only [exB, Bool.and_eq_true] at hb
    have hh := hb.2
    have one : ∀ (x : Bs) (l : List It), MT ((g, x) :: l) ts rest → (∀ p, Fine (tkP x p)) → Hd ts := fun x l h hf => by
      obtain ⟨p, ts', h1, h2⟩ := h
      exact ⟨_, _, h1, hf p⟩
    have onek : ∀ (x : Bs) (l : List It), MT ((g, x) :: l) ts rest → ∃ p ts', ts = tkP x p :: ts' := fun x l h => by
      obtain ⟨p, ts', h1, h2⟩ := h
      exact ⟨p, ts', h1⟩
    simp only [itE] at hm
    unfold itN at hm
    split at hm
    · rename_i hne
      have h2 := kids_two hh hne
      refine ⟨?_, fun _ h => absurd h hne⟩
      match ks, h2, hb.1, hr.2, hm with
      | [a, b], _, hbs, hrs, hm =>
        simp only [exBs, Bool.and_eq_true] at hbs
        obtain ⟨mid, h3, _⟩ := hm.app
        unfold itPar at h3
        split at h3
        · obtain ⟨p, ts', h1, h2⟩ := h3
          exact ⟨_, _, h1, plain_fine (by decide)⟩
        · exact (itE_hd a g ts mid hbs.1 hrs.1 h3).1
    · split at hm
      · rename_i h0
        have hnm : nm = [] ∧ o = 0 := by simp [hdB, h0] at hh; exact ⟨hh.1.2, hh.1.1.2⟩
        split at hm
        · rename_i hneg
          obtain ⟨p, ts', h1, _⟩ := hm
          refine ⟨⟨_, _, h1, plain_fine (by decide)⟩, fun _ _ => ?_⟩
          rw [h1]
          show s_minus ≠ k_number
          decide
        · rename_i hpos
          have hle : n.natAbs ≤ 9223372036854775807 := by have := hr.1.2; omega
          refine ⟨one _ _ hm fun p => ?_, fun hp _ => ?_⟩
          · rw [dec_tk (by omega)]
            exact ⟨rfl, fun h => by have : -(n.natAbs : Int) = -9223372036854775808 := h.2; omega⟩
          · simp [posB, h0] at hp
            omega
      · split at hm
        · rename_i h0 h1
          have hn := (show isNameB nm = true by simp [hdB, h1] at hh; exact hh.2)
          refine ⟨one _ _ hm fun p => by rw [name_tk hn]; exact plain_fine (by decide), fun _ _ => ?_⟩
          obtain ⟨p, ts', h⟩ := onek _ _ hm
          rw [h, name_tk hn]
          show k_name ≠ k_number
          decide
        · split at hm
          · refine ⟨one _ _ hm fun p => plain_fine (by decide), fun _ _ => ?_⟩
            obtain ⟨p, ts', h⟩ := onek _ _ hm
            rw [h]; show s_minus ≠ k_number; decide
          · split at hm
            · refine ⟨one _ _ hm fun p => plain_fine (by decide), fun _ _ => ?_⟩
              obtain ⟨p, ts', h⟩ := onek _ _ hm
              rw [h]; show s_bang ≠ k_number; decide
            · split at hm
              · rename_i hsg _ _ _ _ h4
                subst h4
                have hop : opNm o ≠ [] := by simp [hdB] at hh; exact hh.1.1.1.2
                have hmm := (minmax hop hsg).1
                have hk : ∀ p, tkP (opNm o) p = ⟨opNm o, opNm o, p, 0, 0⟩ := fun p => by rcases hmm with h | h <;> rw [h] <;> rfl
                have hnk : opNm o ≠ k_number := by rcases hmm with h | h <;> rw [h] <;> decide
                refine ⟨one _ _ hm fun p => by rw [hk]; exact plain_fine hnk, fun _ _ => ?_⟩
                obtain ⟨p, ts', h⟩ := onek _ _ hm
                rw [h, hk]; exact hnk
              · split at hm
                · rename_i h5
                  have hn := (show isNameB nm = true by simp [hdB, h5] at hh; exact hh.2)
                  refine ⟨one _ _ hm fun p => by rw [name_tk hn]; exact plain_fine (by decide), fun _ _ => ?_⟩
                  obtain ⟨p, ts', h⟩ := onek _ _ hm
                  rw [h, name_tk hn]; show k_name ≠ k_number; decide
                · split at hm
                  · refine ⟨one _ _ hm fun p => plain_fine (by decide), fun _ _ => ?_⟩
                    obtain ⟨p, ts', h⟩ := onek _ _ hm
                    rw [h]; show k_reduce ≠ k_number; decide
                  · refine ⟨one _ _ hm fun p => plain_fine (by decide), fun _ _ => ?_⟩
                    obtain ⟨p, ts', h⟩ := onek _ _ hm
                    rw [h]; show k_each ≠ k_number; decide
theorem pf_un (n d : Nat) (ts : List Tk) : (pf (n + 1)).unary d ts = unaryP (pf n) d ts := rfl
theorem pf_pr (n d : Nat) (ts : List Tk) : (pf (n + 1)).primary d ts = primaryP (pf n) d ts := rfl
theorem un_pr {n d : Nat} {t : Tk} {ts : List Tk} (h1 : t.kind ≠ s_minus) (h2 : t.kind ≠ s_bang) : (pf (n + 1)).unary d (t :: ts) = (pf n).primary d (t :: ts) := by
  rw [pf_un]
  unfold unaryP
  rw [if_pos ⟨h1, h2⟩]
theorem no_rp' {p : Nat} {r : List Tk} : NS 0 (⟨s_rp, s_rp, p, 0, 0⟩ :: r) := fun j _ => no_rp j
theorem par_uc {e : Ex} {N : Prop} {d : Nat} {g : Bs} {ts rest : List Tk} (hx : XC e) (hb : exB e = true) (hr : rgE e) (hn : Hd rest) (hN : N → d + 1 ≤ 40 ∧ nstE e (d + 1)) (hm : MT (itPar true (itE e) g) ts rest) (n : Nat) : Rz N ((pf n).unary d ts) (.ok e rest) := by
  obtain ⟨p, ts1, rfl, hm⟩ := hm
  obtain ⟨mid, h1, h2⟩ := hm.app
  obtain ⟨q, ts2, rfl, h3⟩ := h2
  have h3 : ts2 = rest := h3
  subst h3
  have ht : tkP (g, s_lp).2 p = ⟨s_lp, s_lp, p, 0, 0⟩ := rfl
  rw [ht]
  match n with
  | 0 => exact .inl rfl
  | 1 => rw [un_pr (show s_lp ≠ s_minus by decide) (show s_lp ≠ s_bang by decide)]; exact .inl rfl
  | n + 2 =>
    rw [un_pr (show s_lp ≠ s_minus by decide) (show s_lp ≠ s_bang by decide), pf_pr]
    unfold primaryP
    simp only [curK, curT]
    rw [if_neg (show ¬ s_lp = k_number by decide), if_neg (show ¬ s_lp = k_name by decide), if_pos trivial]
    refine Rz.deep (fun h => (hN h).1) (N2 := nstE e (d + 1)) ?_ (fun h => (hN h).2)
    have hh := (itE_hd e [] _ _ hb hr h1).1
    rw [step_hd false hh, bind_ok]
    refine Rz.bind (hx n (d + 1) 0 [] _ _ (Nat.zero_le _) (by omega) ⟨_, _, rfl, plain_fine (by decide), show s_rp ≠ s_lp by decide⟩ no_rp' h1) id (N2 := True) ?_ (fun _ => trivial)
    have hk : takeP s_rp (⟨s_rp, s_rp, q, 0, 0⟩ :: ts2) = .ok ⟨s_rp, s_rp, q, 0, 0⟩ ts2 := take_hd rfl hn
    show Rz True ((takeP s_rp (⟨s_rp, s_rp, q, 0, 0⟩ :: ts2)).bind fun _ ts3 => .ok e ts3) _
    rw [hk, bind_ok]
    exact Rz.rfl'
theorem par_xc {e : Ex} {b : Bool} {d lv n : Nat} {g : Bs} {ts rest : List Tk} (hx : XC e) (hb : exB e = true) (hr : rgE e) (hn : NX rest) (hs : NS lv rest) (h8 : lv ≤ 8) (hlv : b = false → lv ≤ (sgE e).2) (hm : MT (itPar b (itE e) g) ts rest) : Rz (parN b d (nstE e)) ((pf n).expr lv d ts) (.ok e rest) := by
  cases b with
  | true =>
    refine up8 (fun n => par_uc hx hb hr hn.hd ?_ hm n) (8 - lv) lv n (by omega) hs
    unfold parN
    rw [if_pos rfl]; exact id
  | false =>
    refine (hx n d lv g ts rest (hlv rfl) h8 hn hs ?_).mono ?_
    · unfold itPar at hm; rw [if_neg (by simp)] at hm; exact hm
    · unfold parN; rw [if_neg (by simp)]; exact id
end Go.Tx
namespace Go.Tx
theorem exB_of : ∀ {ks : List Ex} {x : Ex}, exBs ks = true → x ∈ ks → exB x = true
  | e :: r, x, h, hx => by
    simp only [exBs, Bool.and_eq_true] at h
    rcases List.mem_cons.1 hx with rfl | hx
    · exact h.1
    · exact exB_of h.2 hx
theorem rgE_of : ∀ {ks : List Ex} {x : Ex}, rgEs ks → x ∈ ks → rgE x
  | e :: r, x, h, hx => by
    rcases List.mem_cons.1 hx with rfl | hx
    · exact h.1
    · exact rgE_of h.2 hx
theorem nE_of : ∀ {ks : List Ex} {x : Ex}, x ∈ ks → nE x ≤ nEs ks
  | e :: r, x, hx => by
    simp only [nEs]
    rcases List.mem_cons.1 hx with rfl | hx
    · omega
    · have := nE_of hx; omega
theorem itRest_len : ∀ fs : List (Bs → List It), fs.length ≤ (itRest fs).length
  | [] => Nat.le_refl _
  | f :: r => by
    have := itRest_len r
    simp only [itRest, List.length_cons, List.length_append]; omega
theorem itEs_len : ∀ l : List Ex, (itEs l).length = l.length
  | [] => rfl
  | e :: r => by simp [itEs, itEs_len r]
theorem args_len (ks : List Ex) : ks.length ≤ (itArgs (itEs ks)).length + 1 := by
  cases ks with
  | nil => simp
  | cons e r =>
    simp only [itEs, itArgs, List.length_cons, List.length_append]
    have := itRest_len (itEs r)
    rw [itEs_len] at this
    omega
def Fw (w : Bs) : Prop := w = s_lp ∨ w = s_minus ∨ w = s_bang ∨ isNameB w = true ∨ (∃ m, w = Go.Lib.decDigits m ∧ m ≤ 9223372036854775808) ∨ w = k_min ∨ w = k_max ∨ w = k_reduce ∨ w = k_each
theorem itE_fst : ∀ (e : Ex) (g : Bs), exB e = true → rgE e → ∃ w tl, itE e g = (g, w) :: tl ∧ Fw w
  | .mk kd o n nm cb ks, g, hb, hr => by
    simp only [exB, Bool.and_eq_true] at hb
    have hh := hb.2
    simp only [itE]
    unfold itN
    split
    · rename_i hne
      have h2 := kids_two hh hne
      match ks, h2, hb.1, hr.2 with
      | [a, b], _, hbs, hrs =>
        simp only [exBs, Bool.and_eq_true] at hbs
        unfold itPar
        split
        · exact ⟨_, _, rfl, .inl rfl⟩
        · obtain ⟨w, tl, h1, h2⟩ := itE_fst a g hbs.1 hrs.1
          exact ⟨w, _, by show itE a g ++ _ = _; rw [h1]; rfl, h2⟩
    · split
      · split
        · exact ⟨_, _, rfl, .inr (.inl rfl)⟩
        · exact ⟨_, _, rfl, .inr (.inr (.inr (.inr (.inl ⟨_, rfl, by have := hr.1; omega⟩))))⟩
      · split
        · rename_i h1
          exact ⟨_, _, rfl, .inr (.inr (.inr (.inl (by simp [hdB, h1] at hh; exact hh.2))))⟩
        · split
          · exact ⟨_, _, rfl, .inr (.inl rfl)⟩
          · split
            · exact ⟨_, _, rfl, .inr (.inr (.inl rfl))⟩
            · split
              · rename_i hsg _ _ _ _ h4
                subst h4
                have hop : opNm o ≠ [] := by simp [hdB] at hh; exact hh.1.1.1.2
                rcases (minmax hop hsg).1 with h | h
                · exact ⟨_, _, rfl, by rw [h]; exact .inr (.inr (.inr (.inr (.inr (.inl rfl)))))⟩
                · exact ⟨_, _, rfl, by rw [h]; exact .inr (.inr (.inr (.inr (.inr (.inr (.inl rfl))))))⟩
              · split
                · rename_i h5
                  exact ⟨_, _, rfl, .inr (.inr (.inr (.inl (by simp [hdB, h5] at hh; exact hh.2))))⟩
                · split
                  · exact ⟨_, _, rfl, .inr (.inr (.inr (.inr (.inr (.inr (.inr (.inl rfl)))))))⟩
                  · exact ⟨_, _, rfl, .inr (.inr (.inr (.inr (.inr (.inr (.inr (.inr rfl)))))))⟩
theorem Fw.ne {w : Bs} (h : Fw w) (p : Nat) : (tkP w p).kind ≠ s_rp := by
  rcases h with h | h | h | h | ⟨m, h, hm⟩ | h | h | h | h
  · subst h; show s_lp ≠ s_rp; decide
  · subst h; show s_minus ≠ s_rp; decide
  · subst h; show s_bang ≠ s_rp; decide
  · rw [name_tk h]; show k_name ≠ s_rp; decide
  · rw [h, dec_tk hm]; show k_number ≠ s_rp; decide
  · subst h; show k_min ≠ s_rp; decide
  · subst h; show k_max ≠ s_rp; decide
  · subst h; show k_reduce ≠ s_rp; decide
  · subst h; show k_each ≠ s_rp; decide
theorem itE_rp (e : Ex) (g : Bs) (ts rest : List Tk) (hb : exB e = true) (hr : rgE e) (hm : MT (itE e g) ts rest) : curK ts ≠ s_rp := by
  obtain ⟨w, tl, h1, h2⟩ := itE_fst e g hb hr
  rw [h1] at hm
  obtain ⟨p, ts1, rfl, _⟩ := hm
  exact h2.ne p
theorem no_comma : NoSign s_comma := fun lv => by
  match lv with
  | 0 | 1 | 2 | 3 | 4 | 5 | 6 | 7 => rfl
  | n + 8 => rfl
theorem Rz.trans {α : Type} {N N1 N2 : Prop} {a b c : Res α} (h1 : Rz N1 a b) (hN1 : N → N1) (h2 : Rz N2 b c) (hN2 : N → N2) : Rz N a c := by
  rcases h1 with h1 | h1 | ⟨hn, e, p, h1⟩
  · exact .inl h1
  · rw [h1]; exact h2.mono hN2
  · exact .inr (.inr ⟨fun n => hn (hN1 n), e, p, h1⟩)
def Kd (ks : List Ex) : Prop := ∀ x ∈ ks, XC x ∧ exB x = true ∧ rgE x
theorem Kd.hd {e : Ex} {r : List Ex} (h : Kd (e :: r)) : XC e ∧ exB e = true ∧ rgE e := h e (by simp)
theorem Kd.tl {e : Ex} {r : List Ex} (h : Kd (e :: r)) : Kd r := fun x hx => h x (by simp [hx])
theorem sep_nx {fs : List (Bs → List It)} {ts rest : List Tk} (hm : MT (itRest fs ++ [([], s_rp)]) ts rest) : NX ts ∧ NS 0 ts := by
  cases fs with
  | nil =>
    obtain ⟨p, ts', rfl, h⟩ := hm
    exact ⟨⟨_, _, rfl, plain_fine (by decide), show s_rp ≠ s_lp by decide⟩, fun j _ => no_rp j⟩
  | cons f r =>
    obtain ⟨p, ts', rfl, h⟩ := hm
    exact ⟨⟨_, _, rfl, plain_fine (by decide), show s_comma ≠ s_lp by decide⟩, fun j _ => no_comma j⟩
theorem cut_rest {f : Bs → List It} {r : List (Bs → List It)} {ts rest : List Tk} (hm : MT (itRest (f :: r) ++ [([], s_rp)]) ts rest) : ∃ p ts1 mid, ts = ⟨s_comma, s_comma, p, 0, 0⟩ :: ts1 ∧ MT (f [32]) ts1 mid ∧ MT (itRest r ++ [([], s_rp)]) mid rest := by
  obtain ⟨p, ts1, h1, h2⟩ := hm
  have h2 : MT ((f [32] ++ itRest r) ++ [([], s_rp)]) ts1 rest := h2
  rw [List.append_assoc] at h2
  obtain ⟨mid, h3, h4⟩ := h2.app
  exact ⟨p, ts1, mid, h1, h3, h4⟩
theorem cut_end {ts rest : List Tk} (hm : MT (itRest [] ++ [([], s_rp)]) ts rest) : ∃ p, ts = ⟨s_rp, s_rp, p, 0, 0⟩ :: rest := by
  obtain ⟨p, ts1, h1, h2⟩ := hm
  have h2 : ts1 = rest := h2
  exact ⟨p, by rw [h1, h2]; rfl⟩
theorem take_rp {p : Nat} {ts : List Tk} (h : Hd ts) : takeP s_rp (⟨s_rp, s_rp, p, 0, 0⟩ :: ts) = .ok ⟨s_rp, s_rp, p, 0, 0⟩ ts := take_hd rfl h
theorem ck {t : Tk} {ts : List Tk} : curK (t :: ts) = t.kind := rfl
theorem ct {t : Tk} {ts : List Tk} : curT (t :: ts) = t := rfl
theorem take_kt {k x : Bs} {p : Nat} {ts : List Tk} (h : Hd ts) : takeP k (⟨k, x, p, 0, 0⟩ :: ts) = .ok ⟨k, x, p, 0, 0⟩ ts := take_hd rfl h
theorem take_k {k : Bs} {p : Nat} {ts : List Tk} (h : Hd ts) : takeP k (⟨k, k, p, 0, 0⟩ :: ts) = .ok ⟨k, k, p, 0, 0⟩ ts := take_hd rfl h
theorem args_rest {n d : Nat} : ∀ (ks : List Ex), Kd ks → ∀ k l ts rest, l.length ≠ 0 → ks.length < k → Hd rest → MT (itRest (itEs ks) ++ [([], s_rp)]) ts rest → Rz (∀ r ∈ nstEs ks, r d) (argsP (pf n) d k l ts) (.ok (l ++ ks) rest)
  | [], _, k, l, ts, rest, hl, hk, hr, hm => by
    obtain ⟨p, rfl⟩ := cut_end hm
    obtain ⟨k, rfl⟩ : ∃ k', k = k' + 1 := ⟨k - 1, by simp at hk; omega⟩
    unfold argsP
    rw [if_pos (show curK (⟨s_rp, s_rp, p, 0, 0⟩ :: rest) = s_rp from rfl), take_rp hr, bind_ok, List.append_nil]
    exact Rz.rfl'
  | e :: r, hK, k, l, ts, rest, hl, hk, hr, hm => by
    obtain ⟨p, ts1, mid, rfl, h1, h2⟩ := cut_rest hm
    obtain ⟨k, rfl⟩ : ∃ k', k = k' + 1 := ⟨k - 1, by simp at hk; omega⟩
    have hx := hK.hd
    have hh := (itE_hd e _ _ _ hx.2.1 hx.2.2 h1).1
    unfold argsP
    rw [if_neg (show ¬ curK (⟨s_comma, s_comma, p, 0, 0⟩ :: ts1) = s_rp by show ¬ s_comma = s_rp; decide), if_pos hl, take_k hh, bind_ok, bind_ok]
    refine Rz.bind (hx.1 n d 0 [32] ts1 mid (Nat.zero_le _) (by omega) (sep_nx h2).1 (sep_nx h2).2 h1) (fun h => h _ (by simp [nstEs])) (N2 := ∀ r' ∈ nstEs r, r' d) ?_ (fun h r' hr' => h r' (by simp [nstEs, hr']))
    have := args_rest (n := n) (d := d) r hK.tl k (l ++ [e]) mid rest (by simp) (by simp at hk; omega) hr h2
    rwa [List.append_assoc] at this
theorem cut_args {f : Bs → List It} {r : List (Bs → List It)} {ts rest : List Tk} (hm : MT (itArgs (f :: r) ++ [([], s_rp)]) ts rest) : ∃ mid, MT (f []) ts mid ∧ MT (itRest r ++ [([], s_rp)]) mid rest := by
  have hm : MT ((f [] ++ itRest r) ++ [([], s_rp)]) ts rest := hm
  rw [List.append_assoc] at hm
  exact hm.app
theorem args_all {n d : Nat} : ∀ (ks : List Ex), Kd ks → ∀ k ts rest, ks.length < k → Hd rest → MT (itArgs (itEs ks) ++ [([], s_rp)]) ts rest → Rz (∀ r ∈ nstEs ks, r d) (argsP (pf n) d k [] ts) (.ok ks rest)
  | [], _, k, ts, rest, hk, hr, hm => by
    obtain ⟨p, rfl⟩ := cut_end hm
    obtain ⟨k, rfl⟩ : ∃ k', k = k' + 1 := ⟨k - 1, by simp at hk; omega⟩
    unfold argsP
    rw [if_pos (show curK (⟨s_rp, s_rp, p, 0, 0⟩ :: rest) = s_rp from rfl), take_rp hr, bind_ok]
    exact Rz.rfl'
  | e :: r, hK, k, ts, rest, hk, hr, hm => by
    obtain ⟨mid, h1, h2⟩ := cut_args hm
    obtain ⟨k, rfl⟩ : ∃ k', k = k' + 1 := ⟨k - 1, by simp at hk; omega⟩
    have hx := hK.hd
    have hh := itE_rp e _ _ _ hx.2.1 hx.2.2 h1
    unfold argsP
    rw [if_neg hh, if_neg (by simp), bind_ok]
    refine Rz.bind (hx.1 n d 0 [] ts mid (Nat.zero_le _) (by omega) (sep_nx h2).1 (sep_nx h2).2 h1) (fun h => h _ (by simp [nstEs])) (N2 := ∀ r' ∈ nstEs r, r' d) ?_ (fun h r' hr' => h r' (by simp [nstEs, hr']))
    exact args_rest r hK.tl k ([] ++ [e]) mid rest (by simp) (by simp at hk; omega) hr h2
theorem args_hd {ks : List Ex} (hK : Kd ks) {ts rest : List Tk} (hm : MT (itArgs (itEs ks) ++ [([], s_rp)]) ts rest) : Hd ts := by
  cases ks with
  | nil =>
    obtain ⟨p, rfl⟩ := cut_end hm
    exact ⟨_, _, rfl, plain_fine (by decide)⟩
  | cons e r =>
    obtain ⟨mid, h1, h2⟩ := cut_args hm
    exact (itE_hd e _ _ _ hK.hd.2.1 hK.hd.2.2 h1).1
theorem kids_rest {n d m : Nat} : ∀ (ks : List Ex), Kd ks → ∀ l ts rest, ks.length < m → Hd rest → MT (itRest (itEs ks) ++ [([], s_rp)]) ts rest → Rz (∀ r ∈ nstEs ks, r d) (kidsP (pf n) d m ks.length l ts) (.ok (l ++ ks) rest)
  | [], _, l, ts, rest, hl, hr, hm => by
    obtain ⟨p, rfl⟩ := cut_end hm
    show Rz _ (kidsP (pf n) d m 0 l _) _
    unfold kidsP
    rw [take_rp hr, bind_ok, List.append_nil]
    exact Rz.rfl'
  | e :: r, hK, l, ts, rest, hl, hr, hm => by
    obtain ⟨p, ts1, mid, rfl, h1, h2⟩ := cut_rest hm
    have hx := hK.hd
    have hh := (itE_hd e _ _ _ hx.2.1 hx.2.2 h1).1
    show Rz _ (kidsP (pf n) d m (r.length + 1) l _) _
    unfold kidsP
    rw [if_pos (by simpa using hl), take_k hh, bind_ok, bind_ok]
    refine Rz.bind (hx.1 n d 0 [32] ts1 mid (Nat.zero_le _) (by omega) (sep_nx h2).1 (sep_nx h2).2 h1) (fun h => h _ (by simp [nstEs])) (N2 := ∀ r' ∈ nstEs r, r' d) ?_ (fun h r' hr' => h r' (by simp [nstEs, hr']))
    have := kids_rest (n := n) (d := d) (m := m) r hK.tl (l ++ [e]) mid rest (by simp at hl; omega) hr h2
    rwa [List.append_assoc] at this
theorem kids_all {n d m : Nat} {g : Bs} {e : Ex} {r : List Ex} (hK : Kd (e :: r)) {ts mid rest : List Tk} (hm' : m = r.length + 1) (hr : Hd rest) (h1 : MT (itE e g) ts mid) (h2 : MT (itRest (itEs r) ++ [([], s_rp)]) mid rest) : Rz (∀ r' ∈ nstEs (e :: r), r' d) (kidsP (pf n) d m m [] ts) (.ok (e :: r) rest) := by
  have hx := hK.hd
  subst hm'
  conv => arg 2; unfold kidsP
  rw [if_neg (by omega), bind_ok]
  refine Rz.bind (hx.1 n d 0 g ts mid (Nat.zero_le _) (by omega) (sep_nx h2).1 (sep_nx h2).2 h1) (fun h => h _ (by simp [nstEs])) (N2 := ∀ r' ∈ nstEs r, r' d) ?_ (fun h r' hr' => h r' (by simp [nstEs, hr']))
  exact kids_rest (m := r.length + 1) r hK.tl ([] ++ [e]) mid rest (by omega) hr h2
theorem un_prim {N : Prop} {r' : Res Ex} {d : Nat} {t : Tk} {ts : List Tk} (h1 : t.kind ≠ s_minus) (h2 : t.kind ≠ s_bang) (h : ∀ n, Rz N (primaryP (pf n) d (t :: ts)) r') : ∀ n, Rz N ((pf n).unary d (t :: ts)) r'
  | 0 => .inl rfl
  | 1 => by rw [un_pr h1 h2]; exact .inl rfl
  | n + 2 => by rw [un_pr h1 h2, pf_pr]; exact h n
theorem uc_of {kd o n : Int} {nm cb : Bs} {ks : List Ex} (hb : exB (.mk kd o n nm cb ks) = true) (hr : rgE (.mk kd o n nm cb ks)) (h0 : (sgK kd o).1 = []) (hK : ∀ x ∈ ks, XC x ∧ ((sgE x).2 = 8 → UC x)) : UC (.mk kd o n nm cb ks) := by
  intro fu d g ts rest hn hm
  simp only [exB, Bool.and_eq_true] at hb
  obtain ⟨hbs, hh⟩ := hb
  have hk : ∀ x ∈ ks, (XC x ∧ ((sgE x).2 = 8 → UC x)) ∧ exB x = true ∧ rgE x := fun x hx => ⟨hK x hx, exB_of hbs hx, rgE_of hr.2 hx⟩
  have hKd : Kd ks := fun x hx => ⟨(hk x hx).1.1, (hk x hx).2.1, (hk x hx).2.2⟩
  simp only [itE] at hm
  unfold itN at hm
  rw [if_neg (by rw [h0]; simp)] at hm
  show Rz (nstN kd o n ks (nstEs ks) d) _ _
  unfold nstN
  rw [if_neg (by rw [h0]; simp)]
  by_cases k0 : kd = 0
  · rw [if_pos k0] at hm ⊢
    subst k0
    simp [hdB] at hh
    obtain ⟨⟨⟨hks, ho⟩, hnm⟩, hcb⟩ := hh
    subst ho hnm hcb hks
    split at hm
    · rename_i hneg
      obtain ⟨p, ts1, rfl, q, ts2, rfl, rfl⟩ := hm
      rw [dec_tk (by have := hr.1; omega)]
      cases fu with
      | zero => exact .inl rfl
      | succ fu =>
        rw [pf_un]
        unfold unaryP
        rw [if_neg (fun h => h.1 rfl)]
        refine Rz.deep (fun h => h hneg) (N2 := True) ?_ (fun _ => trivial)
        have : stepP (curK (tkP (g, s_minus).2 p :: numT n.natAbs q :: ts2) == s_minus) (tkP (g, s_minus).2 p :: numT n.natAbs q :: ts2) = .ok () (numT n.natAbs q :: ts2) := step_ok rfl (fun h => by have := h.2.2; simp [tkP, curK, s_minus, letter, digit] at this)
        rw [this, bind_ok, if_pos ⟨rfl, rfl⟩, step_hd false hn.hd, bind_ok]
        have : (curT (numT n.natAbs q :: ts2)).n = n := by show -(n.natAbs : Int) = n; omega
        rw [this]
        exact Rz.rfl'
    · rename_i hneg
      obtain ⟨p, ts1, rfl, rfl⟩ := hm
      rw [dec_tk (by have := hr.1; omega)]
      refine un_prim (show k_number ≠ s_minus by decide) (show k_number ≠ s_bang by decide) (fun n' => ?_) fu
      unfold primaryP
      rw [if_pos (show curK (numT n.natAbs p :: ts1) = k_number from rfl), step_hd false hn.hd, bind_ok]
      have : negW (curT (numT n.natAbs p :: ts1)).n = n := by
        show negW (-(n.natAbs : Int)) = n
        unfold negW
        have := hr.1
        rw [if_neg (by omega)]; omega
      rw [this]
      exact Rz.rfl'
  rw [if_neg k0] at hm ⊢
  by_cases k1 : kd = 1
  · rw [if_pos k1] at hm ⊢
    subst k1
    simp [hdB] at hh
    obtain ⟨⟨⟨⟨hks, ho⟩, hn0⟩, hcb⟩, hnm⟩ := hh
    subst hks ho hn0 hcb
    obtain ⟨p, ts1, rfl, rfl⟩ := hm
    rw [name_tk hnm]
    refine un_prim (show k_name ≠ s_minus by decide) (show k_name ≠ s_bang by decide) (fun n' => ?_) fu
    unfold primaryP
    rw [ck, ct]
    show Rz True (if k_name = k_number then _ else if k_name = k_name then _ else _) _
    rw [if_neg (show ¬ k_name = k_number by decide), if_pos rfl, step_hd false hn.hd, bind_ok]
    obtain ⟨u, r, rfl, hf, hl⟩ := hn
    rw [if_pos (show curK (u :: r) ≠ s_lp from hl)]
    exact Rz.rfl'
  rw [if_neg k1] at hm ⊢
  by_cases k2 : kd = 2
  · rw [if_pos k2] at hm ⊢
    subst k2
    simp [hdB] at hh
    obtain ⟨⟨⟨⟨hks, ho⟩, hn0⟩, hnm⟩, hcb⟩ := hh
    subst ho hn0 hnm hcb
    match ks, hks, hk with
    | [x], _, hk =>
    have hx := hk x (by simp)
    obtain ⟨p, ts1, rfl, hm⟩ := hm
    cases fu with
    | zero => exact .inl rfl
    | succ fu =>
      rw [pf_un]
      unfold unaryP
      rw [if_neg (fun h => h.1 rfl)]
      refine Rz.deep (fun h => h.1) (N2 := parN (decide ((sgE x).1 ≠ []) || posB x) (d + 1) (nstE x)) ?_ (fun h => h.2)
      have hm : MT (itPar (decide ((sgE x).1 ≠ []) || posB x) (itE x) []) ts1 rest := hm
      have hd1 : Hd ts1 ∧ curK ts1 ≠ k_number := by
        unfold itPar at hm
        split at hm
        · obtain ⟨q, ts2, rfl, _⟩ := hm
          exact ⟨⟨_, _, rfl, plain_fine (by decide)⟩, by show s_lp ≠ k_number; decide⟩
        · rename_i hc
          simp at hc
          have := itE_hd x _ _ _ hx.2.1 hx.2.2 hm
          exact ⟨this.1, this.2 hc.2 hc.1⟩
      rw [step_hd _ hd1.1, bind_ok, if_neg (fun h => hd1.2 h.2)]
      refine Rz.bind (N1 := parN (decide ((sgE x).1 ≠ []) || posB x) (d + 1) (nstE x)) ?_ id (N2 := True) (k := fun e ts2 => Res.ok (Ex.mk _ 0 0 [] [] [e]) ts2) Rz.rfl' (fun _ => trivial)
      unfold itPar at hm
      unfold parN
      split at hm
      · rename_i hc
        rw [if_pos hc]
        exact par_uc hx.1.1 hx.2.1 hx.2.2 hn.hd id (by unfold itPar; rw [if_pos rfl]; exact hm) fu
      · rename_i hc
        rw [if_neg hc]
        simp at hc
        refine hx.1.2 ?_ fu (d + 1) [] ts1 rest hn hm
        rw [sg8 (by simp [hc.1])]
  rw [if_neg k2] at hm ⊢
  by_cases k3 : kd = 3
  · rw [if_pos k3] at hm ⊢
    subst k3
    simp [hdB] at hh
    obtain ⟨⟨⟨⟨hks, ho⟩, hn0⟩, hnm⟩, hcb⟩ := hh
    subst ho hn0 hnm hcb
    match ks, hks, hk with
    | [x], _, hk =>
    have hx := hk x (by simp)
    obtain ⟨p, ts1, rfl, hm⟩ := hm
    cases fu with
    | zero => exact .inl rfl
    | succ fu =>
      rw [pf_un]
      unfold unaryP
      rw [if_neg (fun h => h.2 rfl)]
      refine Rz.deep (fun h => h.1) (N2 := parN (decide ((sgE x).1 ≠ [])) (d + 1) (nstE x)) ?_ (fun h => h.2)
      have hm : MT (itPar (decide ((sgE x).1 ≠ [])) (itE x) []) ts1 rest := hm
      have hd1 : Hd ts1 := by
        unfold itPar at hm
        split at hm
        · obtain ⟨q, ts2, rfl, _⟩ := hm
          exact ⟨_, _, rfl, plain_fine (by decide)⟩
        · exact (itE_hd x _ _ _ hx.2.1 hx.2.2 hm).1
      rw [step_hd _ hd1, bind_ok, if_neg (fun h => absurd h.1 (by show ¬ s_bang = s_minus; decide))]
      refine Rz.bind (N1 := parN (decide ((sgE x).1 ≠ [])) (d + 1) (nstE x)) ?_ id (N2 := True) (k := fun e ts2 => Res.ok (Ex.mk _ 0 0 [] [] [e]) ts2) Rz.rfl' (fun _ => trivial)
      unfold itPar at hm
      unfold parN
      split at hm
      · rename_i hc
        rw [if_pos hc]
        exact par_uc hx.1.1 hx.2.1 hx.2.2 hn.hd id (by unfold itPar; rw [if_pos rfl]; exact hm) fu
      · rename_i hc
        rw [if_neg hc]
        simp at hc
        refine hx.1.2 ?_ fu (d + 1) [] ts1 rest hn hm
        rw [sg8 (by simp [hc])]
  rw [if_neg k3] at hm ⊢
  have hlp : ∀ {p : Nat} {r : List Tk}, Hd (⟨s_lp, s_lp, p, 0, 0⟩ :: r) := ⟨_, _, rfl, plain_fine (by decide)⟩
  by_cases k4 : kd = 4
  · rw [if_pos k4] at hm
    subst k4
    simp [hdB] at hh
    obtain ⟨⟨⟨⟨hks, hop⟩, hn0⟩, hnm⟩, hcb⟩ := hh
    subst hn0 hnm hcb
    have hmm := minmax hop (by rw [h0]; simp)
    have hsp : ∀ p, tkP (opNm o) p = ⟨opNm o, opNm o, p, 0, 0⟩ := fun p => by rcases hmm.1 with h | h <;> rw [h] <;> rfl
    match ks, hks, hKd with
    | [x, y], _, hKd =>
    obtain ⟨p, ts1, rfl, q, ts2, rfl, hm⟩ := hm
    obtain ⟨mid, h1, h2⟩ := cut_args hm
    have hx := hKd.hd
    have hd2 := (itE_hd x _ _ _ hx.2.1 hx.2.2 h1).1
    rw [hsp]
    have hne : opNm o ≠ k_number ∧ opNm o ≠ k_name ∧ opNm o ≠ s_lp ∧ opNm o ≠ s_minus ∧ opNm o ≠ s_bang ∧ opNm o ≠ k_reduce ∧ opNm o ≠ k_each := by rcases hmm.1 with h | h <;> rw [h] <;> decide
    refine un_prim hne.2.2.2.1 hne.2.2.2.2.1 (fun n' => ?_) fu
    unfold primaryP
    rw [ck, ct]
    dsimp only
    rw [if_neg hne.1, if_neg hne.2.1, if_neg hne.2.2.1, if_pos (by rcases hmm.1 with h | h; exact .inl h; exact .inr (.inl h))]
    refine Rz.deep (fun h => h.1) (N2 := ∀ r ∈ nstEs [x, y], r (d + 1)) ?_ (fun h => h.2)
    rw [show tkP (([] : Bs), s_lp).2 q = ⟨s_lp, s_lp, q, 0, 0⟩ from rfl, step_hd _ hlp, bind_ok, take_k hd2, bind_ok]
    unfold formP
    rw [ck]
    dsimp only
    rw [if_neg hne.2.2.2.2.2.1, if_neg hne.2.2.2.2.2.2]
    refine Rz.bind (kids_all hKd rfl hn.hd h1 h2) id (N2 := True) ?_ (fun _ => trivial)
    rw [hmm.2]
    exact Rz.rfl'
  rw [if_neg k4] at hm
  by_cases k5 : kd = 5
  · rw [if_pos k5] at hm
    subst k5
    simp [hdB] at hh
    obtain ⟨⟨⟨ho, hn0⟩, hcb⟩, hnm⟩ := hh
    subst ho hn0 hcb
    obtain ⟨p, ts1, rfl, q, ts2, rfl, hm⟩ := hm
    have hd2 : Hd ts2 := args_hd hKd hm
    rw [name_tk hnm]
    refine un_prim (show k_name ≠ s_minus by decide) (show k_name ≠ s_bang by decide) (fun n' => ?_) fu
    unfold primaryP
    rw [ck, ct]
    dsimp only
    rw [if_neg (show ¬ k_name = k_number by decide), if_pos rfl]
    rw [show tkP (([] : Bs), s_lp).2 q = ⟨s_lp, s_lp, q, 0, 0⟩ from rfl, step_hd _ hlp, bind_ok, if_neg (fun h => h rfl)]
    refine Rz.deep (fun h => h.1) (N2 := ∀ r ∈ nstEs ks, r (d + 1)) ?_ (fun h => h.2)
    rw [step_hd _ hd2, bind_ok]
    refine Rz.bind (args_all ks hKd _ _ _ ?_ hn.hd hm) id (N2 := True) Rz.rfl' (fun _ => trivial)
    have h3 := args_len ks
    rw [hm.len, List.length_append]
    simp; omega
  rw [if_neg k5] at hm
  by_cases k6 : kd = 6
  · rw [if_pos k6] at hm
    subst k6
    simp [hdB] at hh
    obtain ⟨⟨⟨⟨hks, ho⟩, hn0⟩, hnm⟩, hcb⟩ := hh
    subst ho hn0
    match ks, hks, hKd with
    | x :: r, hks, hKd =>
    obtain ⟨p1, ts1, rfl, p2, ts2, rfl, p3, ts3, rfl, p4, ts4, rfl, p5, ts5, rfl, hm⟩ := hm
    obtain ⟨p6, ts6, mid, rfl, h1, h2⟩ := cut_rest hm
    have hx := hKd.hd
    have hd2 := (itE_hd x _ _ _ hx.2.1 hx.2.2 h1).1
    have hnme : ∀ {s : Bs} {p : Nat} {r : List Tk}, Hd (⟨k_name, s, p, 0, 0⟩ :: r) := ⟨_, _, rfl, plain_fine (by decide)⟩
    have hcm : ∀ {p : Nat} {r : List Tk}, Hd (⟨s_comma, s_comma, p, 0, 0⟩ :: r) := ⟨_, _, rfl, plain_fine (by decide)⟩
    rw [name_tk hnm, name_tk hcb]
    refine un_prim (show k_reduce ≠ s_minus by decide) (show k_reduce ≠ s_bang by decide) (fun n' => ?_) fu
    show Rz _ (primaryP (pf n') d (⟨k_reduce, k_reduce, p1, 0, 0⟩ :: ⟨s_lp, s_lp, p2, 0, 0⟩ :: ⟨k_name, nm, p3, 0, 0⟩ :: ⟨s_comma, s_comma, p4, 0, 0⟩ :: ⟨k_name, cb, p5, 0, 0⟩ :: ⟨s_comma, s_comma, p6, 0, 0⟩ :: ts6)) _
    unfold primaryP
    rw [ck, ct]
    dsimp only
    rw [if_neg (by decide), if_neg (by decide), if_neg (by decide), if_pos (.inr (.inr (.inl rfl)))]
    refine Rz.deep (fun h => h.1) (N2 := ∀ r' ∈ nstEs (x :: r), r' (d + 1)) ?_ (fun h => h.2)
    rw [step_hd _ hlp, bind_ok, take_kt hnme, bind_ok]
    unfold formP
    rw [ck]
    dsimp only
    rw [if_pos rfl, take_kt hcm, bind_ok, take_kt hnme, bind_ok, take_kt hcm, bind_ok, take_kt hd2, bind_ok]
    exact Rz.bind (kids_all hKd (by simpa using hks.symm) hn.hd h1 h2) id (N2 := True) Rz.rfl' (fun _ => trivial)
  rw [if_neg k6] at hm
  have k7 : kd = 7 := by
    unfold hdB at hh
    rw [if_neg k0, if_neg k1, if_neg (by simp [k2, k3])] at hh
    split at hh
    · rename_i h; exfalso
      rcases h with h | h <;> subst h
      · exact absurd h0 (show ¬ (sgn2 s_andd).1 = [] by decide)
      · exact absurd h0 (show ¬ (sgn2 s_orr).1 = [] by decide)
    · split at hh
      · assumption
      · exact absurd hh (by simp)
  subst k7
  simp [hdB] at hh
  obtain ⟨⟨⟨⟨hks, ho⟩, hn0⟩, hcb⟩, hnm⟩ := hh
  subst ho hn0 hcb
  match ks, hks, hKd with
  | x :: r, hks, hKd =>
  obtain ⟨p1, ts1, rfl, p2, ts2, rfl, p3, ts3, rfl, hm⟩ := hm
  obtain ⟨p6, ts6, mid, rfl, h1, h2⟩ := cut_rest hm
  have hx := hKd.hd
  have hd2 := (itE_hd x _ _ _ hx.2.1 hx.2.2 h1).1
  have hnme : ∀ {s : Bs} {p : Nat} {r : List Tk}, Hd (⟨k_name, s, p, 0, 0⟩ :: r) := ⟨_, _, rfl, plain_fine (by decide)⟩
  have hcm : ∀ {p : Nat} {r : List Tk}, Hd (⟨s_comma, s_comma, p, 0, 0⟩ :: r) := ⟨_, _, rfl, plain_fine (by decide)⟩
  rw [name_tk hnm]
  refine un_prim (show k_each ≠ s_minus by decide) (show k_each ≠ s_bang by decide) (fun n' => ?_) fu
  show Rz _ (primaryP (pf n') d (⟨k_each, k_each, p1, 0, 0⟩ :: ⟨s_lp, s_lp, p2, 0, 0⟩ :: ⟨k_name, nm, p3, 0, 0⟩ :: ⟨s_comma, s_comma, p6, 0, 0⟩ :: ts6)) _
  unfold primaryP
  rw [ck, ct]
  dsimp only
  rw [if_neg (by decide), if_neg (by decide), if_neg (by decide), if_pos (.inr (.inr (.inr rfl)))]
  refine Rz.deep (fun h => h.1) (N2 := ∀ r' ∈ nstEs (x :: r), r' (d + 1)) ?_ (fun h => h.2)
  rw [step_hd _ hlp, bind_ok, take_kt hnme, bind_ok]
  unfold formP
  rw [ck]
  dsimp only
  rw [if_neg (show ¬ k_each = k_reduce by decide), if_pos rfl, take_kt hcm, bind_ok, take_kt hd2, bind_ok]
  exact Rz.bind (kids_all hKd (by simpa using hks.symm) hn.hd h1 h2) id (N2 := True) Rz.rfl' (fun _ => trivial)
end Go.Tx
namespace Go.Tx
theorem sg_nolp {lv : Nat} {s : Bs} (h : standsB lv s = true) : s ≠ s_lp ∧ s ≠ k_number := by
  obtain ⟨_, l, h2, h3⟩ := stands_lt h
  have key : (levels.all fun l => l.all fun s => decide (s ≠ s_lp ∧ s ≠ k_number)) = true := by decide
  have := List.all_eq_true.1 (List.all_eq_true.1 key l (List.mem_of_getElem? h2)) s h3
  simpa using this
theorem par_lc {e : Ex} {b : Bool} {d lv n : Nat} {g : Bs} {ts rest : List Tk} (hx : XC e) (hl : LC e) (hb : exB e = true) (hr : rgE e) (hn : NX rest) (hs : NS (lv + 1) rest) (h8 : lv < 8) (hlv : b = false → lv ≤ (sgE e).2) (hm : MT (itPar b (itE e) g) ts rest) : ∃ k, rest.length < k ∧ Rz (parN b d (nstE e)) (exprP (pf n) lv d ts) (loopE (pf n) lv d k e rest) := by
  cases b with
  | true =>
    refine ⟨rest.length + 1, by omega, ?_⟩
    unfold exprP
    rw [if_neg (by omega)]
    exact Rz.bind (par_xc hx hb hr hn hs (by omega) (fun h => by cases h) hm) id (N2 := True) Rz.rfl' (fun _ => trivial)
  | false =>
    have hm : MT (itE e g) ts rest := by unfold itPar at hm; rw [if_neg (by simp)] at hm; exact hm
    obtain ⟨k, h1, h2⟩ := hl n d lv g ts rest (hlv rfl) h8 hn hs hm
    exact ⟨k, h1, h2.mono (by unfold parN; rw [if_neg (by simp)]; exact id)⟩
theorem le_of {kd o n : Int} {nm cb : Bs} {a b : Ex} (hb : exB (.mk kd o n nm cb [a, b]) = true) (hr : rgE (.mk kd o n nm cb [a, b])) (h0 : (sgK kd o).1 ≠ []) (ha : XC a ∧ LC a) (hbx : XC b) : LE (.mk kd o n nm cb [a, b]) := by
  intro fu d g ts rest h8 hn hs hm
  simp only [exB, exBs, Bool.and_eq_true] at hb
  obtain ⟨⟨hba, hbb, _⟩, hh⟩ := hb
  have hra := hr.2.1
  have hrb := hr.2.2.1
  obtain ⟨s, lv, hsl⟩ : ∃ s lv, sgK kd o = (s, lv) := ⟨_, _, rfl⟩
  have hne : s ≠ [] := by rw [hsl] at h0; exact h0
  have hst := (sg_stands hsl hne).1
  have hlv : (sgE (.mk kd o n nm cb [a, b])).2 = lv := by show (sgK kd o).2 = lv; rw [hsl]
  rw [hlv] at h8 hs ⊢
  simp only [itE] at hm
  unfold itN at hm
  rw [if_pos h0, hsl] at hm
  have hm : MT (itPar (decide ((sgE a).2 < lv)) (itE a) g ++ ([32], s) :: itPar (decide ((sgE b).2 ≤ lv)) (itE b) [32]) ts rest := hm
  obtain ⟨mid, h1, p, ts2, rfl, h2⟩ := hm.app
  have htk : tkP ([32], s).2 p = ⟨s, s, p, 0, 0⟩ := sgn_tk hst p
  rw [htk] at h1
  have hmn : NX (⟨s, s, p, 0, 0⟩ :: ts2) := ⟨_, _, rfl, plain_fine (sg_nolp hst).2, (sg_nolp hst).1⟩
  have hms : NS (lv + 1) (⟨s, s, p, 0, 0⟩ :: ts2) := fun j hj => by
    show standsB j s = false
    exact stands_one hst (by omega)
  obtain ⟨k, hk, hz⟩ := par_lc (d := d) (n := fu) ha.1 ha.2 hba hra hmn hms h8 (fun h => by simp at h; exact h) h1
  have hlen := h2.len
  obtain ⟨k, rfl⟩ : ∃ k', k = k' + 1 := ⟨k - 1, by omega⟩
  refine ⟨k, by simp at hk; omega, ?_⟩
  have hN : nstE (.mk kd o n nm cb [a, b]) d = (parN (decide ((sgE a).2 < lv)) d (nstE a) ∧ parN (decide ((sgE b).2 ≤ lv)) d (nstE b)) := by
    show nstN kd o n [a, b] (nstEs [a, b]) d = _
    unfold nstN
    rw [if_pos h0, hsl]
    rfl
  rw [hN]
  refine hz.trans (fun h => h.1) (N2 := parN (decide ((sgE b).2 ≤ lv)) d (nstE b)) ?_ (fun h => h.2)
  have hlo : loopE (pf fu) lv d (k + 1) a (⟨s, s, p, 0, 0⟩ :: ts2) = (stepP false (⟨s, s, p, 0, 0⟩ :: ts2)).bind fun _ ts1 => ((pf fu).expr (lv + 1) d ts1).bind fun r ts2' => loopE (pf fu) lv d k (joinP s a r) ts2' := by
    conv => lhs; unfold loopE
    rw [if_pos (show standsB lv (curK (⟨s, s, p, 0, 0⟩ :: ts2)) = true from hst)]
    rfl
  rw [hlo]
  have hd2 : Hd ts2 := by
    unfold itPar at h2
    split at h2
    · obtain ⟨q, ts3, rfl, _⟩ := h2
      exact ⟨_, _, rfl, plain_fine (by decide)⟩
    · exact (itE_hd b _ _ _ hbb hrb h2).1
  rw [step_hd _ hd2, bind_ok]
  refine Rz.bind (par_xc (n := fu) (d := d) (lv := lv + 1) hbx hbb hrb hn hs (by omega) (fun h => by simp at h; exact h) h2) id (N2 := True) ?_ (fun _ => trivial)
  rw [join_sg a b hsl hne hh]
  exact Rz.rfl'
theorem xc_all : ∀ (m : Nat) (e : Ex), nE e ≤ m → exB e = true → rgE e → XC e ∧ LC e ∧ ((sgE e).2 = 8 → UC e)
  | 0, .mk kd o n nm cb ks, h, _, _ => by simp only [nE] at h; omega
  | m + 1, .mk kd o n nm cb ks, h, hb, hr => by
    have hbb := hb
    simp only [exB, Bool.and_eq_true] at hbb
    have hk : ∀ x ∈ ks, XC x ∧ LC x ∧ ((sgE x).2 = 8 → UC x) := fun x hx => xc_all m x (by have := nE_of hx; simp only [nE] at h; omega) (exB_of hbb.1 hx) (rgE_of hr.2 hx)
    have h8 := sg_le (.mk kd o n nm cb ks)
    by_cases h0 : (sgK kd o).1 = []
    · have hu := uc_of hb hr h0 fun x hx => ⟨(hk x hx).1, (hk x hx).2.2⟩
      have he : sgE (.mk kd o n nm cb ks) = ([], 8) := sg8 (by show ¬ (sgK kd o).1 ≠ []; rw [h0]; simp)
      have hle : LE (.mk kd o n nm cb ks) := fun n d g ts rest h => by rw [he] at h; exact absurd h (by decide)
      have hx := XC.of (fun _ => hu) h8 hle
      exact ⟨hx, LC.of hx hle h8, fun _ => hu⟩
    · have h2 := kids_two hbb.2 h0
      match ks, h2, hb, hr, hk, h8 with
      | [a, b], _, hb, hr, hk, h8 =>
        have hle := le_of hb hr h0 ⟨(hk a (by simp)).1, (hk a (by simp)).2.1⟩ (hk b (by simp)).1
        have hlt : (sgE (.mk kd o n nm cb [a, b])).2 < 8 := sg_lv h0
        have hx := XC.of (fun h => by omega) h8 hle
        exact ⟨hx, LC.of hx hle h8, fun h => by omega⟩
theorem xc (e : Ex) (hb : exB e = true) (hr : rgE e) : XC e := (xc_all (nE e) e (Nat.le_refl _) hb hr).1
theorem kd_of {ks : List Ex} (hb : exBs ks = true) (hr : rgEs ks) : Kd ks := fun x hx => ⟨xc x (exB_of hb hx) (rgE_of hr hx), exB_of hb hx, rgE_of hr hx⟩
end Go.Tx
namespace Go.Tx
def nlT (o : Nat) : Bs := 10 :: tabs o
def itElse (o : Nat) (f : List St) (one many : List It) : List It := match f with
  | [] => []
  | .mk kd _ _ _ _ :: r => if r = [] ∧ kd = 4 then ([32], k_else) :: one else ([32], k_else) :: ([32], s_lb) :: (many ++ [(nlT o, s_rb)])
def itSt (kd : Int) (nm : Bs) (e : List It) (o : Nat) (b els : List It) (g : Bs) : List It :=
  if kd = 0 then (g, k_let) :: ([32], nm) :: ([32], s_asg) :: (e ++ [([], s_semi)])
  else if kd = 1 then (g, nm) :: ([32], s_asg) :: (e ++ [([], s_semi)])
  else if kd = 2 then (g, k_spawn) :: ([32], nm) :: ([32], s_asg) :: (e ++ [([], s_semi)])
  else if kd = 3 then [(g, k_sync), ([], s_semi)]
  else if kd = 8 then [(g, k_break), ([], s_semi)]
  else if kd = 9 then [(g, k_continue), ([], s_semi)]
  else if kd = 6 then (g, k_do) :: (e ++ [([], s_semi)])
  else if kd = 7 then (g, k_return) :: (e ++ [([], s_semi)])
  else if kd = 5 then (g, k_while) :: (e ++ ([32], s_lb) :: (b ++ [(nlT o, s_rb)]))
  else if kd = 4 then (g, k_if) :: (e ++ ([32], s_lb) :: (b ++ (nlT o, s_rb) :: els))
  else []
mutual
def itS : Nat → St → Bs → List It
  | o, .mk kd nm e b f => itSt kd nm (itE e [32]) o (itB (o + 1) b) (itElse o f (itH o f) (itB (o + 1) f))
def itB : Nat → List St → List It
  | _, [] => []
  | o, s :: r => itS o s (nlT o) ++ itB o r
def itH : Nat → List St → List It
  | _, [] => []
  | o, s :: _ => itS o s [32]
end
def itP (ps : List Bs) : List (Bs → List It) := ps.map fun p g => [(g, p)]
def itF (f : Fnc) (g : Bs) : List It := (g, k_fn) :: ([32], f.name) :: ([], s_lp) :: (itArgs (itP f.params) ++ ([], s_rp) :: ([32], s_lb) :: (itB 1 f.body ++ [([10], s_rb)]))
def itL : List Fnc → Bs → List It
  | [], _ => []
  | f :: r, g => itF f g ++ itL r [10]
theorem st_cases {kd : Int} {nm : Bs} {e : Ex} {b f : List St} (h : stB (.mk kd nm e b f) = true) :
    (kd = 0 ∧ isNameB nm = true ∧ exB e = true ∧ b = [] ∧ f = []) ∨ (kd = 1 ∧ isNameB nm = true ∧ exB e = true ∧ b = [] ∧ f = []) ∨ (kd = 2 ∧ isNameB nm = true ∧ isCall e = true ∧ exB e = true ∧ b = [] ∧ f = []) ∨ (kd = 3 ∧ nm = [] ∧ e = .zero ∧ b = [] ∧ f = []) ∨ (kd = 8 ∧ nm = [] ∧ e = .zero ∧ b = [] ∧ f = []) ∨ (kd = 9 ∧ nm = [] ∧ e = .zero ∧ b = [] ∧ f = []) ∨ (kd = 6 ∧ nm = [] ∧ exB e = true ∧ b = [] ∧ f = []) ∨ (kd = 7 ∧ nm = [] ∧ exB e = true ∧ b = [] ∧ f = []) ∨ (kd = 5 ∧ nm = [] ∧ exB e = true ∧ stBs b = true ∧ f = []) ∨ (kd = 4 ∧ nm = [] ∧ exB e = true ∧ stBs b = true ∧ stBs f = true) := by
  have hz : ∀ e : Ex, zeroB e = true → e = .zero := fun e h => by
    obtain ⟨a, b, c, d, x, y⟩ := e
    simp [zeroB] at h
    obtain ⟨⟨⟨⟨⟨rfl, rfl⟩, rfl⟩, rfl⟩, rfl⟩, rfl⟩ := h
    rfl
  unfold stB at h
  split at h
  · rename_i hk
    simp at h
    rcases hk with hk | hk
    · exact .inl ⟨hk, h.1.1.1, h.1.1.2, h.1.2, h.2⟩
    · exact .inr (.inl ⟨hk, h.1.1.1, h.1.1.2, h.1.2, h.2⟩)
  · split at h
    · rename_i hk
      simp at h
      exact .inr (.inr (.inl ⟨hk, h.1.1.1.1, h.1.1.1.2, h.1.1.2, h.1.2, h.2⟩))
    · split at h
      · rename_i hk
        simp at h
        have := hz e h.1.1.2
        rcases hk with hk | hk | hk
        · exact .inr (.inr (.inr (.inl ⟨hk, h.1.1.1, this, h.1.2, h.2⟩)))
        · exact .inr (.inr (.inr (.inr (.inl ⟨hk, h.1.1.1, this, h.1.2, h.2⟩))))
        · exact .inr (.inr (.inr (.inr (.inr (.inl ⟨hk, h.1.1.1, this, h.1.2, h.2⟩)))))
      · split at h
        · rename_i hk
          simp at h
          rcases hk with hk | hk
          · exact .inr (.inr (.inr (.inr (.inr (.inr (.inl ⟨hk, h.1.1.1, h.1.1.2, h.1.2, h.2⟩))))))
          · exact .inr (.inr (.inr (.inr (.inr (.inr (.inr (.inl ⟨hk, h.1.1.1, h.1.1.2, h.1.2, h.2⟩)))))))
        · split at h
          · rename_i hk
            simp at h
            exact .inr (.inr (.inr (.inr (.inr (.inr (.inr (.inr (.inl ⟨hk, h.1.1.1, h.1.1.2, h.1.2, h.2⟩))))))))
          · split at h
            · rename_i hk
              simp at h
              exact .inr (.inr (.inr (.inr (.inr (.inr (.inr (.inr (.inr ⟨hk, h.1.1.1, h.1.1.2, h.1.2, h.2⟩))))))))
            · cases h
end Go.Tx
namespace Go.Tx
theorem no_lb : NoSign s_lb := fun lv => by
  match lv with
  | 0 | 1 | 2 | 3 | 4 | 5 | 6 | 7 => rfl
  | n + 8 => rfl
def Sw (w : Bs) : Prop := isNameB w = true ∨ w ∈ [k_let, k_spawn, k_sync, k_if, k_while, k_do, k_return, k_break, k_continue]
theorem itS_fst (s : St) (o : Nat) (g : Bs) (h : stB s = true) : ∃ w tl, itS o s g = (g, w) :: tl ∧ Sw w := by
  obtain ⟨kd, nm, e, b, f⟩ := s
  simp only [itS]
  rcases st_cases h with h | h | h | h | h | h | h | h | h | h <;> rw [h.1]
  · exact ⟨k_let, _, rfl, .inr (by decide)⟩
  · exact ⟨nm, _, rfl, .inl h.2.1⟩
  · exact ⟨k_spawn, _, rfl, .inr (by decide)⟩
  · exact ⟨k_sync, _, rfl, .inr (by decide)⟩
  · exact ⟨k_break, _, rfl, .inr (by decide)⟩
  · exact ⟨k_continue, _, rfl, .inr (by decide)⟩
  · exact ⟨k_do, _, rfl, .inr (by decide)⟩
  · exact ⟨k_return, _, rfl, .inr (by decide)⟩
  · exact ⟨k_while, _, rfl, .inr (by decide)⟩
  · exact ⟨k_if, _, rfl, .inr (by decide)⟩
def SN (k : Bs) : Prop := k ≠ k_number ∧ k ≠ s_rb ∧ k ≠ k_else ∧ k ≠ s_lp ∧ beginsB k = true
theorem Sw.k {w : Bs} (h : Sw w) (p : Nat) : ∃ k, tkP w p = ⟨k, w, p, 0, 0⟩ ∧ SN k := by
  rcases h with h | h
  · exact ⟨k_name, name_tk h p, by unfold SN; decide⟩
  · simp only [List.mem_cons, List.not_mem_nil, or_false] at h
    rcases h with h | h | h | h | h | h | h | h | h <;> subst h <;> exact ⟨_, rfl, by unfold SN; decide⟩
def Nx (ts : List Tk) : Prop := Hd ts ∧ curK ts ≠ k_else
theorem st_hd {s : St} {o : Nat} {g : Bs} {ts rest : List Tk} (h : stB s = true) (hm : MT (itS o s g) ts rest) : Hd ts ∧ SN (curK ts) := by
  obtain ⟨w, tl, h1, h2⟩ := itS_fst s o g h
  rw [h1] at hm
  obtain ⟨p, ts1, rfl, _⟩ := hm
  obtain ⟨k, hk, hs⟩ := h2.k p
  show Hd (tkP w p :: ts1) ∧ SN (tkP w p).kind
  rw [hk]
  exact ⟨⟨_, _, rfl, plain_fine hs.1⟩, hs⟩
def SC (s : St) : Prop := ∀ n d o g ts rest, Nx rest → MT (itS o s g) ts rest → Rz (nstS s d) (stmtP (pf n) d ts) (.ok s rest)
def CC (s : St) : Prop := ∀ n d o g ts rest, Nx rest → MT (itS o s g) ts rest → Rz (nstS s d) ((pf n).choice d ts) (.ok s rest)
theorem itS_ne (s : St) (o : Nat) (g : Bs) (h : stB s = true) : 1 ≤ (itS o s g).length := by
  obtain ⟨w, tl, h1, h2⟩ := itS_fst s o g h
  rw [h1]; simp
theorem itB_len : ∀ (b : List St) (o : Nat), stBs b = true → b.length ≤ (itB o b).length
  | [], _, _ => Nat.le_refl _
  | s :: r, o, h => by
    simp only [stBs, Bool.and_eq_true] at h
    have := itS_ne s o (nlT o) h.1
    have := itB_len r o h.2
    simp only [itB, List.length_append, List.length_cons]; omega
theorem b_hd {b : List St} {o p : Nat} {ts rest : List Tk} (h : stBs b = true) (hm : MT (itB o b) ts (⟨s_rb, s_rb, p, 0, 0⟩ :: rest)) : Nx ts := by
  cases b with
  | nil =>
    rw [show ts = _ from hm]
    exact ⟨⟨_, _, rfl, plain_fine (by decide)⟩, by show s_rb ≠ k_else; decide⟩
  | cons s r =>
    simp only [stBs, Bool.and_eq_true] at h
    simp only [itB] at hm
    obtain ⟨mid, h1, _⟩ := hm.app
    have := st_hd h.1 h1
    exact ⟨this.1, this.2.2.2.1⟩
theorem loopB_all {n d o p : Nat} {rest : List Tk} : ∀ (b : List St), stBs b = true → (∀ s ∈ b, SC s) → ∀ k l ts, b.length < k → MT (itB o b) ts (⟨s_rb, s_rb, p, 0, 0⟩ :: rest) → Rz (nstB b d) (loopB (pf n) d k l ts) (.ok (l ++ b) (⟨s_rb, s_rb, p, 0, 0⟩ :: rest))
  | [], _, _, k, l, ts, hk, hm => by
    rw [show ts = _ from hm]
    obtain ⟨k, rfl⟩ : ∃ k', k = k' + 1 := ⟨k - 1, by simp at hk; omega⟩
    unfold loopB
    rw [if_pos (show curK (⟨s_rb, s_rb, p, 0, 0⟩ :: rest) = s_rb from rfl), List.append_nil]
    exact Rz.rfl'
  | s :: r, hb, hs, k, l, ts, hk, hm => by
    simp only [stBs, Bool.and_eq_true] at hb
    simp only [itB] at hm
    obtain ⟨mid, h1, h2⟩ := hm.app
    obtain ⟨k, rfl⟩ : ∃ k', k = k' + 1 := ⟨k - 1, by simp at hk; omega⟩
    unfold loopB
    rw [if_neg (st_hd hb.1 h1).2.2.1]
    refine Rz.bind (hs s (by simp) n d o _ ts mid (b_hd hb.2 h2) h1) (fun h => h.1) (N2 := nstB r d) ?_ (fun h => h.2)
    have := loopB_all (n := n) (d := d) r hb.2 (fun x hx => hs x (by simp [hx])) k (l ++ [s]) mid (by simp at hk; omega) h2
    rwa [List.append_assoc] at this
theorem block_all {b : List St} (hb : stBs b = true) (hs : ∀ s ∈ b, SC s) {d o : Nat} {g g2 : Bs} {ts rest : List Tk} (hr : Hd rest) (hm : MT ((g, s_lb) :: (itB o b ++ [(g2, s_rb)])) ts rest) : ∀ n, Rz (nstB b d) ((pf n).block d ts) (.ok b rest)
  | 0 => .inl rfl
  | n + 1 => by
    obtain ⟨p, ts1, rfl, hm⟩ := hm
    obtain ⟨mid, h1, q, ts2, rfl, h2⟩ := hm.app
    have h2 : ts2 = rest := h2
    subst h2
    have h1 : MT (itB o b) ts1 (⟨s_rb, s_rb, q, 0, 0⟩ :: ts2) := h1
    show Rz _ (blockP (pf n) d (⟨s_lb, s_lb, p, 0, 0⟩ :: ts1)) _
    unfold blockP
    rw [take_kt (b_hd hb h1).1, bind_ok]
    refine Rz.bind (loopB_all (n := n) (d := d) b hb hs (ts1.length + 1) [] ts1 ?_ h1) id (N2 := True) ?_ (fun _ => trivial)
    · have := itB_len b o hb
      rw [h1.len]; omega
    · rw [take_kt hr, bind_ok]
      exact Rz.rfl'
theorem lb_nx {p : Nat} {ts : List Tk} : NX (⟨s_lb, s_lb, p, 0, 0⟩ :: ts) ∧ NS 0 (⟨s_lb, s_lb, p, 0, 0⟩ :: ts) := ⟨⟨_, _, rfl, plain_fine (by decide), show s_lb ≠ s_lp by decide⟩, fun j _ => no_lb j⟩
theorem semi_nx {p : Nat} {ts : List Tk} : NX (⟨s_semi, s_semi, p, 0, 0⟩ :: ts) ∧ NS 0 (⟨s_semi, s_semi, p, 0, 0⟩ :: ts) := ⟨⟨_, _, rfl, plain_fine (by decide), show s_semi ≠ s_lp by decide⟩, fun j _ => no_semi j⟩
theorem ex_then {e : Ex} (hb : exB e = true) (hr : rgE e) {g g2 w : Bs} {l : List It} {ts rest : List Tk} (hm : MT (itE e g ++ (g2, w) :: l) ts rest) (hw : w = s_lb ∨ w = s_semi) : Hd ts ∧ ∃ p ts2, MT l ts2 rest ∧ ∀ n d, Rz (nstE e d) ((pf n).expr 0 d ts) (.ok e (⟨w, w, p, 0, 0⟩ :: ts2)) := by
  obtain ⟨mid, h1, p, ts2, rfl, h2⟩ := hm.app
  refine ⟨(itE_hd e _ _ _ hb hr h1).1, p, ts2, h2, fun n d => ?_⟩
  have ht : tkP (g2, w).2 p = ⟨w, w, p, 0, 0⟩ := by rcases hw with rfl | rfl <;> rfl
  rw [ht] at h1
  have hnx : NX (⟨w, w, p, 0, 0⟩ :: ts2) ∧ NS 0 (⟨w, w, p, 0, 0⟩ :: ts2) := by rcases hw with rfl | rfl; exact lb_nx; exact semi_nx
  exact xc e hb hr n d 0 g ts _ (Nat.zero_le _) (by omega) hnx.1 hnx.2 h1
theorem cc_of {nm : Bs} {e : Ex} {b f : List St} (hB : stB (.mk 4 nm e b f) = true) (hr : rgS (.mk 4 nm e b f)) (hsb : ∀ s ∈ b, SC s) (hsf : ∀ s ∈ f, SC s) (hcf : ∀ s ∈ f, (match s with | .mk kd _ _ _ _ => kd = 4) → CC s) : CC (.mk 4 nm e b f) := by
  intro n d o g ts rest hn hm
  have hc : nm = [] ∧ exB e = true ∧ stBs b = true ∧ stBs f = true := by
    rcases st_cases hB with h | h | h | h | h | h | h | h | h | h <;> first | exact absurd h.1 (by decide) | exact h.2
  obtain ⟨rfl, hbe, hbb, hbf⟩ := hc
  simp only [itS] at hm
  change MT ((g, k_if) :: (itE e [32] ++ ([32], s_lb) :: (itB (o + 1) b ++ (nlT o, s_rb) :: itElse o f (itH o f) (itB (o + 1) f)))) ts rest at hm
  obtain ⟨p, ts1, rfl, hm⟩ := hm
  cases n with
  | zero => exact .inl rfl
  | succ n =>
  have hN : nstS (.mk 4 [] e b f) d = (d ≤ 40 ∧ nstE e d ∧ nstB b (d + 1) ∧ nstB f (d + 1)) := rfl
  rw [hN]
  show Rz _ (choiceP (pf n) d (⟨k_if, k_if, p, 0, 0⟩ :: ts1)) _
  obtain ⟨hh, q, ts2, hm, he⟩ := ex_then hbe hr.1 hm (.inl rfl)
  unfold choiceP
  rw [take_kt hh, bind_ok]
  refine Rz.bind (he n d) (fun h => h.2.1) (N2 := nstB b (d + 1) ∧ nstB f (d + 1)) ?_ (fun h => h.2.2)
  have hm : MT (([32], s_lb) :: ((itB (o + 1) b ++ [(nlT o, s_rb)]) ++ itElse o f (itH o f) (itB (o + 1) f))) (⟨s_lb, s_lb, q, 0, 0⟩ :: ts2) rest := ⟨q, ts2, rfl, by rw [List.append_assoc]; exact hm⟩
  obtain ⟨mid, h1, h2⟩ := MT.app (a := ([32], s_lb) :: (itB (o + 1) b ++ [(nlT o, s_rb)])) hm
  match f, hbf, hr, hsf, hcf, h2 with
  | [], _, _, _, _, h2 =>
    have h2 : mid = rest := h2
    subst h2
    refine Rz.bind (block_all (d := d + 1) hbb hsb hn.1 h1 n) (fun h => h.1) (N2 := True) ?_ (fun _ => trivial)
    rw [if_pos hn.2]
    exact Rz.rfl'
  | .mk kd2 nm2 e2 b2 f2 :: r, hbf, hr, hsf, hcf, h2 =>
    change MT (if r = [] ∧ kd2 = 4 then ([32], k_else) :: itH o (.mk kd2 nm2 e2 b2 f2 :: r) else ([32], k_else) :: ([32], s_lb) :: (itB (o + 1) (.mk kd2 nm2 e2 b2 f2 :: r) ++ [(nlT o, s_rb)])) mid rest at h2
    by_cases hk : r = [] ∧ kd2 = 4
    · rw [if_pos hk] at h2
      obtain ⟨rfl, rfl⟩ := hk
      obtain ⟨p2, ts3, rfl, h3⟩ := h2
      have h3 : MT (itS o (.mk 4 nm2 e2 b2 f2) [32]) ts3 rest := h3
      refine Rz.bind (block_all (d := d + 1) (rest := ⟨k_else, k_else, p2, 0, 0⟩ :: ts3) hbb hsb ⟨_, _, rfl, plain_fine (by decide)⟩ h1 n) (fun h => h.1) (N2 := nstB [.mk 4 nm2 e2 b2 f2] (d + 1)) ?_ (fun h => h.2)
      have hs1 : stB (.mk 4 nm2 e2 b2 f2) = true := by simp only [stBs, Bool.and_eq_true] at hbf; exact hbf.1
      rw [if_neg (show ¬ curK (⟨k_else, k_else, p2, 0, 0⟩ :: ts3) ≠ k_else from fun h => h rfl), step_hd _ (st_hd hs1 h3).1, bind_ok]
      have hif : curK ts3 = k_if := by
        simp only [itS] at h3
        obtain ⟨p3, ts4, rfl, _⟩ : ∃ p3 ts4, ts3 = tkP k_if p3 :: ts4 ∧ True := by
          obtain ⟨p3, ts4, h, _⟩ := h3
          exact ⟨p3, ts4, h, trivial⟩
        rfl
      rw [if_pos hif]
      refine Rz.deep (fun h => h.1.1) (N2 := nstS (.mk 4 nm2 e2 b2 f2) (d + 1)) ?_ (fun h => h.1)
      exact Rz.bind (hcf _ (by simp) rfl n (d + 1) o _ _ _ hn h3) id (N2 := True) Rz.rfl' (fun _ => trivial)
    · rw [if_neg hk] at h2
      obtain ⟨p2, ts3, rfl, h3⟩ := h2
      refine Rz.bind (block_all (d := d + 1) (rest := ⟨k_else, k_else, p2, 0, 0⟩ :: ts3) hbb hsb ⟨_, _, rfl, plain_fine (by decide)⟩ h1 n) (fun h => h.1) (N2 := nstB (.mk kd2 nm2 e2 b2 f2 :: r) (d + 1)) ?_ (fun h => h.2)
      have hlb : ∃ p3 ts4, ts3 = ⟨s_lb, s_lb, p3, 0, 0⟩ :: ts4 := by obtain ⟨p3, ts4, h, _⟩ := h3; exact ⟨p3, ts4, h⟩
      have hh3 : Hd ts3 ∧ curK ts3 ≠ k_if := by
        obtain ⟨p3, ts4, rfl⟩ := hlb
        exact ⟨⟨_, _, rfl, plain_fine (by decide)⟩, by show s_lb ≠ k_if; decide⟩
      rw [if_neg (show ¬ curK (⟨k_else, k_else, p2, 0, 0⟩ :: ts3) ≠ k_else from fun h => h rfl), step_hd _ hh3.1, bind_ok, if_neg hh3.2]
      exact Rz.bind (block_all (d := d + 1) hbf hsf hn.1 h3 n) id (N2 := True) Rz.rfl' (fun _ => trivial)
end Go.Tx
namespace Go.Tx
theorem plain_st {n d p : Nat} {ts rest : List Tk} {s : St} {N2 : Prop} (hk : SN (curK ts)) (h1 : curK ts ≠ k_if) (h2 : curK ts ≠ k_while) (hr : Hd rest) (h : Rz N2 (plainP (pf n) d ts) (.ok s (⟨s_semi, s_semi, p, 0, 0⟩ :: rest))) {N : Prop} (hN : N → d ≤ 40 ∧ N2) : Rz N (stmtP (pf n) d ts) (.ok s rest) := by
  unfold stmtP
  rw [if_pos hk.2.2.2.2]
  refine Rz.deep (fun h => (hN h).1) (N2 := N2) ?_ (fun h => (hN h).2)
  rw [if_neg h1, if_neg h2]
  refine Rz.bind h id (N2 := True) ?_ (fun _ => trivial)
  rw [take_kt hr, bind_ok]
  exact Rz.rfl'
theorem nm_hd {s : Bs} {p : Nat} {r : List Tk} : Hd (⟨k_name, s, p, 0, 0⟩ :: r) := ⟨_, _, rfl, plain_fine (by decide)⟩
theorem asg_hd {p : Nat} {r : List Tk} : Hd (⟨s_asg, s_asg, p, 0, 0⟩ :: r) := ⟨_, _, rfl, plain_fine (by decide)⟩
theorem semi_hd {p : Nat} {r : List Tk} : Hd (⟨s_semi, s_semi, p, 0, 0⟩ :: r) := ⟨_, _, rfl, plain_fine (by decide)⟩
theorem lp_hd {p : Nat} {r : List Tk} : Hd (⟨s_lp, s_lp, p, 0, 0⟩ :: r) := ⟨_, _, rfl, plain_fine (by decide)⟩
theorem call_of {e : Ex} (h : isCall e = true) (hb : exB e = true) : ∃ f l, e = .mk 5 0 0 f [] l ∧ isNameB f = true ∧ exBs l = true := by
  obtain ⟨kd, o, n, nm, cb, ks⟩ := e
  simp [isCall] at h
  subst h
  simp only [exB, Bool.and_eq_true] at hb
  obtain ⟨h1, h2⟩ := hb
  simp [hdB] at h2
  obtain ⟨⟨⟨rfl, rfl⟩, rfl⟩, h⟩ := h2
  exact ⟨_, _, rfl, h, h1⟩
theorem sc_of {kd : Int} {nm : Bs} {e : Ex} {b f : List St} (hB : stB (.mk kd nm e b f) = true) (hr : rgS (.mk kd nm e b f)) (hsb : ∀ s ∈ b, SC s) (hsf : ∀ s ∈ f, SC s) (hcf : ∀ s ∈ f, (match s with | .mk kd _ _ _ _ => kd = 4) → CC s) : SC (.mk kd nm e b f) := by
  intro n d o g ts rest hn hm
  have hst := st_hd hB hm
  have hcs := st_cases hB
  simp only [itS] at hm
  rcases hcs with h | h | h | h | h | h | h | h | h | h
  · obtain ⟨rfl, hnm, hbe, rfl, rfl⟩ := h
    change MT ((g, k_let) :: ([32], nm) :: ([32], s_asg) :: (itE e [32] ++ [([], s_semi)])) ts rest at hm
    obtain ⟨p1, ts1, rfl, p2, ts2, rfl, p3, ts3, rfl, hm⟩ := hm
    obtain ⟨hh, q, ts4, h4, he⟩ := ex_then hbe hr.1 hm (.inr rfl)
    have h4 : ts4 = rest := h4
    subst h4
    rw [name_tk hnm] at hst ⊢
    refine plain_st (N2 := nstE e d) hst.2 (show k_let ≠ k_if by decide) (show k_let ≠ k_while by decide) hn.1 (p := q) ?_ (fun h => ⟨h.1, h.2.1⟩)
    show Rz _ (plainP (pf n) d (⟨k_let, k_let, p1, 0, 0⟩ :: ⟨k_name, nm, p2, 0, 0⟩ :: ⟨s_asg, s_asg, p3, 0, 0⟩ :: ts3)) _
    unfold plainP
    rw [step_hd _ nm_hd, bind_ok, ck]
    dsimp only
    rw [if_neg (by decide), if_neg (by decide), if_neg (by decide), if_neg (by decide), if_neg (by decide), if_neg (by decide), if_pos rfl, take_kt asg_hd, bind_ok, take_kt hh, bind_ok]
    exact Rz.bind (he n d) id (N2 := True) Rz.rfl' (fun _ => trivial)
  · obtain ⟨rfl, hnm, hbe, rfl, rfl⟩ := h
    change MT ((g, nm) :: ([32], s_asg) :: (itE e [32] ++ [([], s_semi)])) ts rest at hm
    obtain ⟨p2, ts2, rfl, p3, ts3, rfl, hm⟩ := hm
    obtain ⟨hh, q, ts4, h4, he⟩ := ex_then hbe hr.1 hm (.inr rfl)
    have h4 : ts4 = rest := h4
    subst h4
    rw [name_tk hnm] at hst ⊢
    refine plain_st (N2 := nstE e d) hst.2 (show k_name ≠ k_if by decide) (show k_name ≠ k_while by decide) hn.1 (p := q) ?_ (fun h => ⟨h.1, h.2.1⟩)
    show Rz _ (plainP (pf n) d (⟨k_name, nm, p2, 0, 0⟩ :: ⟨s_asg, s_asg, p3, 0, 0⟩ :: ts3)) _
    unfold plainP
    rw [step_hd _ asg_hd, bind_ok, ck, ct]
    dsimp only
    rw [if_neg (by decide), if_neg (by decide), if_neg (by decide), if_neg (by decide), if_neg (by decide), if_neg (by decide), if_neg (by decide), take_kt hh, bind_ok]
    exact Rz.bind (he n d) id (N2 := True) Rz.rfl' (fun _ => trivial)
  · obtain ⟨rfl, hnm, hc, hbe, rfl, rfl⟩ := h
    obtain ⟨fn, l, rfl, hfn, hbl⟩ := call_of hc hbe
    change MT ((g, k_spawn) :: ([32], nm) :: ([32], s_asg) :: ([32], fn) :: ([], s_lp) :: ((itArgs (itEs l) ++ [([], s_rp)]) ++ [([], s_semi)])) ts rest at hm
    obtain ⟨p1, ts1, rfl, p2, ts2, rfl, p3, ts3, rfl, p4, ts4, rfl, p5, ts5, rfl, hm⟩ := hm
    obtain ⟨mid, h1, q, ts6, rfl, h4⟩ := hm.app
    have h4 : ts6 = rest := h4
    subst h4
    have hK := kd_of hbl hr.1.2
    rw [name_tk hnm, name_tk hfn] at hst ⊢
    have hh := args_hd hK h1
    refine plain_st (N2 := ∀ r ∈ nstEs l, r d) hst.2 (show k_spawn ≠ k_if by decide) (show k_spawn ≠ k_while by decide) hn.1 (p := q) ?_ (fun h => ⟨h.1, h.2.1⟩)
    show Rz _ (plainP (pf n) d (⟨k_spawn, k_spawn, p1, 0, 0⟩ :: ⟨k_name, nm, p2, 0, 0⟩ :: ⟨s_asg, s_asg, p3, 0, 0⟩ :: ⟨k_name, fn, p4, 0, 0⟩ :: ⟨s_lp, s_lp, p5, 0, 0⟩ :: ts5)) _
    unfold plainP
    rw [step_hd _ nm_hd, bind_ok, ck]
    dsimp only
    rw [if_neg (by decide), if_neg (by decide), if_neg (by decide), if_neg (by decide), if_neg (by decide), if_pos rfl, take_kt asg_hd, bind_ok, take_kt nm_hd, bind_ok, take_kt lp_hd, bind_ok, take_kt hh, bind_ok]
    refine Rz.bind (args_all l hK _ _ _ ?_ semi_hd h1) id (N2 := True) Rz.rfl' (fun _ => trivial)
    have h3 := args_len l
    rw [h1.len, List.length_append]
    simp; omega
  · obtain ⟨rfl, rfl, rfl, rfl, rfl⟩ := h
    change MT [(g, k_sync), ([], s_semi)] ts rest at hm
    obtain ⟨p1, ts1, rfl, q, ts2, rfl, rfl⟩ := hm
    refine plain_st (N2 := True) hst.2 (show k_sync ≠ k_if by decide) (show k_sync ≠ k_while by decide) hn.1 (p := q) ?_ (fun h => ⟨h.1, trivial⟩)
    show Rz _ (plainP (pf n) d (⟨k_sync, k_sync, p1, 0, 0⟩ :: ⟨s_semi, s_semi, q, 0, 0⟩ :: ts2)) _
    unfold plainP
    rw [step_hd _ semi_hd, bind_ok, ck]
    exact Rz.rfl'
  · obtain ⟨rfl, rfl, rfl, rfl, rfl⟩ := h
    change MT [(g, k_break), ([], s_semi)] ts rest at hm
    obtain ⟨p1, ts1, rfl, q, ts2, rfl, rfl⟩ := hm
    refine plain_st (N2 := True) hst.2 (show k_break ≠ k_if by decide) (show k_break ≠ k_while by decide) hn.1 (p := q) ?_ (fun h => ⟨h.1, trivial⟩)
    show Rz _ (plainP (pf n) d (⟨k_break, k_break, p1, 0, 0⟩ :: ⟨s_semi, s_semi, q, 0, 0⟩ :: ts2)) _
    unfold plainP
    rw [step_hd _ semi_hd, bind_ok, ck]
    exact Rz.rfl'
  · obtain ⟨rfl, rfl, rfl, rfl, rfl⟩ := h
    change MT [(g, k_continue), ([], s_semi)] ts rest at hm
    obtain ⟨p1, ts1, rfl, q, ts2, rfl, rfl⟩ := hm
    refine plain_st (N2 := True) hst.2 (show k_continue ≠ k_if by decide) (show k_continue ≠ k_while by decide) hn.1 (p := q) ?_ (fun h => ⟨h.1, trivial⟩)
    show Rz _ (plainP (pf n) d (⟨k_continue, k_continue, p1, 0, 0⟩ :: ⟨s_semi, s_semi, q, 0, 0⟩ :: ts2)) _
    unfold plainP
    rw [step_hd _ semi_hd, bind_ok, ck]
    exact Rz.rfl'
  · obtain ⟨rfl, rfl, hbe, rfl, rfl⟩ := h
    change MT ((g, k_do) :: (itE e [32] ++ [([], s_semi)])) ts rest at hm
    obtain ⟨p1, ts1, rfl, hm⟩ := hm
    obtain ⟨hh, q, ts4, h4, he⟩ := ex_then hbe hr.1 hm (.inr rfl)
    have h4 : ts4 = rest := h4
    subst h4
    refine plain_st (N2 := nstE e d) hst.2 (show k_do ≠ k_if by decide) (show k_do ≠ k_while by decide) hn.1 (p := q) ?_ (fun h => ⟨h.1, h.2.1⟩)
    show Rz _ (plainP (pf n) d (⟨k_do, k_do, p1, 0, 0⟩ :: ts1)) _
    unfold plainP
    rw [step_hd _ hh, bind_ok, ck]
    dsimp only
    rw [if_neg (by decide), if_neg (by decide), if_neg (by decide), if_pos rfl]
    exact Rz.bind (he n d) id (N2 := True) Rz.rfl' (fun _ => trivial)
  · obtain ⟨rfl, rfl, hbe, rfl, rfl⟩ := h
    change MT ((g, k_return) :: (itE e [32] ++ [([], s_semi)])) ts rest at hm
    obtain ⟨p1, ts1, rfl, hm⟩ := hm
    obtain ⟨hh, q, ts4, h4, he⟩ := ex_then hbe hr.1 hm (.inr rfl)
    have h4 : ts4 = rest := h4
    subst h4
    refine plain_st (N2 := nstE e d) hst.2 (show k_return ≠ k_if by decide) (show k_return ≠ k_while by decide) hn.1 (p := q) ?_ (fun h => ⟨h.1, h.2.1⟩)
    show Rz _ (plainP (pf n) d (⟨k_return, k_return, p1, 0, 0⟩ :: ts1)) _
    unfold plainP
    rw [step_hd _ hh, bind_ok, ck]
    dsimp only
    rw [if_neg (by decide), if_neg (by decide), if_neg (by decide), if_neg (by decide), if_pos rfl]
    exact Rz.bind (he n d) id (N2 := True) Rz.rfl' (fun _ => trivial)
  · obtain ⟨rfl, rfl, hbe, hbb, rfl⟩ := h
    change MT ((g, k_while) :: (itE e [32] ++ ([32], s_lb) :: (itB (o + 1) b ++ [(nlT o, s_rb)]))) ts rest at hm
    obtain ⟨p1, ts1, rfl, hm⟩ := hm
    obtain ⟨hh, q, ts4, h4, he⟩ := ex_then hbe hr.1 hm (.inl rfl)
    have h5 : MT (([32], s_lb) :: (itB (o + 1) b ++ [(nlT o, s_rb)])) (⟨s_lb, s_lb, q, 0, 0⟩ :: ts4) rest := ⟨q, ts4, rfl, h4⟩
    show Rz (d ≤ 40 ∧ nstE e d ∧ nstB b (d + 1) ∧ nstB [] (d + 1)) (stmtP (pf n) d (⟨k_while, k_while, p1, 0, 0⟩ :: ts1)) _
    unfold stmtP
    rw [if_pos (show beginsB (curK (⟨k_while, k_while, p1, 0, 0⟩ :: ts1)) = true from hst.2.2.2.2.2)]
    refine Rz.deep (fun h => h.1) (N2 := nstE e d ∧ nstB b (d + 1)) ?_ (fun h => ⟨h.2.1, h.2.2.1⟩)
    rw [ck]
    dsimp only
    rw [if_neg (by decide), if_pos rfl, step_hd _ hh, bind_ok]
    refine Rz.bind (he n d) (fun h => h.1) (N2 := nstB b (d + 1)) ?_ (fun h => h.2)
    exact Rz.bind (block_all (d := d + 1) hbb hsb hn.1 h5 n) id (N2 := True) Rz.rfl' (fun _ => trivial)
  · obtain ⟨rfl, hnm, hbe, hbb, hbf⟩ := h
    have hm2 : MT (itS o (.mk 4 nm e b f) g) ts rest := by simp only [itS]; exact hm
    have hcc := cc_of hB hr hsb hsf hcf n d o g ts rest hn hm2
    have hif : curK ts = k_if := by
      obtain ⟨p3, ts4, h, _⟩ := hm
      rw [h]; rfl
    unfold stmtP
    rw [if_pos hst.2.2.2.2.2]
    refine Rz.deep (fun h => h.1) (N2 := nstS (.mk 4 nm e b f) d) ?_ id
    rw [if_pos hif]
    exact hcc
theorem stB_of : ∀ {b : List St} {s : St}, stBs b = true → s ∈ b → stB s = true
  | x :: r, s, h, hs => by
    simp only [stBs, Bool.and_eq_true] at h
    rcases List.mem_cons.1 hs with rfl | hs
    · exact h.1
    · exact stB_of h.2 hs
theorem rgS_of : ∀ {b : List St} {s : St}, rgSs b → s ∈ b → rgS s
  | x :: r, s, h, hs => by
    rcases List.mem_cons.1 hs with rfl | hs
    · exact h.1
    · exact rgS_of h.2 hs
theorem nS_of : ∀ {b : List St} {s : St}, s ∈ b → nS s ≤ nSs b
  | x :: r, s, hs => by
    simp only [nSs]
    rcases List.mem_cons.1 hs with rfl | hs
    · omega
    · have := nS_of hs; omega
theorem st_bodies {kd : Int} {nm : Bs} {e : Ex} {b f : List St} (h : stB (.mk kd nm e b f) = true) : stBs b = true ∧ stBs f = true := by
  rcases st_cases h with h | h | h | h | h | h | h | h | h | h
  · rw [h.2.2.2.1, h.2.2.2.2]; exact ⟨rfl, rfl⟩
  · rw [h.2.2.2.1, h.2.2.2.2]; exact ⟨rfl, rfl⟩
  · rw [h.2.2.2.2.1, h.2.2.2.2.2]; exact ⟨rfl, rfl⟩
  · rw [h.2.2.2.1, h.2.2.2.2]; exact ⟨rfl, rfl⟩
  · rw [h.2.2.2.1, h.2.2.2.2]; exact ⟨rfl, rfl⟩
  · rw [h.2.2.2.1, h.2.2.2.2]; exact ⟨rfl, rfl⟩
  · rw [h.2.2.2.1, h.2.2.2.2]; exact ⟨rfl, rfl⟩
  · rw [h.2.2.2.1, h.2.2.2.2]; exact ⟨rfl, rfl⟩
  · rw [h.2.2.2.2]; exact ⟨h.2.2.2.1, rfl⟩
  · exact ⟨h.2.2.2.1, h.2.2.2.2⟩
theorem sc_all : ∀ (m : Nat) (s : St), nS s ≤ m → stB s = true → rgS s → SC s ∧ ((match s with | .mk kd _ _ _ _ => kd = 4) → CC s)
  | 0, .mk kd nm e b f, h, _, _ => by simp only [nS] at h; omega
  | m + 1, .mk kd nm e b f, h, hB, hr => by
    simp only [nS] at h
    have hbf := st_bodies hB
    have hb : ∀ s ∈ b, SC s := fun s hs => (sc_all m s (by have := nS_of hs; omega) (stB_of hbf.1 hs) (rgS_of hr.2.1 hs)).1
    have hf : ∀ s ∈ f, SC s ∧ ((match s with | .mk kd _ _ _ _ => kd = 4) → CC s) := fun s hs => sc_all m s (by have := nS_of hs; omega) (stB_of hbf.2 hs) (rgS_of hr.2.2 hs)
    refine ⟨sc_of hB hr hb (fun s hs => (hf s hs).1) (fun s hs => (hf s hs).2), fun hk => ?_⟩
    have hk : kd = 4 := hk
    subst hk
    exact cc_of hB hr hb (fun s hs => (hf s hs).1) (fun s hs => (hf s hs).2)
theorem sc_body {b : List St} (hb : stBs b = true) (hr : rgSs b) : ∀ s ∈ b, SC s := fun s hs => (sc_all (nS s) s (Nat.le_refl _) (stB_of hb hs) (rgS_of hr hs)).1
end Go.Tx
namespace Go.Tx
theorem comma_hd {p : Nat} {r : List Tk} : Hd (⟨s_comma, s_comma, p, 0, 0⟩ :: r) := ⟨_, _, rfl, plain_fine (by decide)⟩
theorem rp_hd {p : Nat} {r : List Tk} : Hd (⟨s_rp, s_rp, p, 0, 0⟩ :: r) := ⟨_, _, rfl, plain_fine (by decide)⟩
theorem lb_hd {p : Nat} {r : List Tk} : Hd (⟨s_lb, s_lb, p, 0, 0⟩ :: r) := ⟨_, _, rfl, plain_fine (by decide)⟩
theorem ps_hd {ps : List Bs} {ts rest : List Tk} {q : Nat} (hm : MT (itRest (itP ps)) ts (⟨s_rp, s_rp, q, 0, 0⟩ :: rest)) : Hd ts := by
  cases ps with
  | nil => rw [show ts = _ from hm]; exact rp_hd
  | cons x r =>
    obtain ⟨p, ts', rfl, _⟩ := hm
    exact comma_hd
theorem names_rest {q : Nat} {rest : List Tk} : ∀ (ps : List Bs), (ps.all isNameB) = true → ∀ k l ts, l.length ≠ 0 → ps.length < k → MT (itRest (itP ps)) ts (⟨s_rp, s_rp, q, 0, 0⟩ :: rest) → loopN k l ts = .ok (l ++ ps) (⟨s_rp, s_rp, q, 0, 0⟩ :: rest)
  | [], _, k, l, ts, hl, hk, hm => by
    rw [show ts = _ from hm]
    obtain ⟨k, rfl⟩ : ∃ k', k = k' + 1 := ⟨k - 1, by simp at hk; omega⟩
    unfold loopN
    rw [if_pos (show curK (⟨s_rp, s_rp, q, 0, 0⟩ :: rest) = s_rp from rfl), List.append_nil]
  | x :: r, hb, k, l, ts, hl, hk, hm => by
    simp only [List.all_cons, Bool.and_eq_true] at hb
    obtain ⟨p, ts1, rfl, p2, ts2, rfl, hm⟩ : ∃ p ts1, ts = ⟨s_comma, s_comma, p, 0, 0⟩ :: ts1 ∧ ∃ p2 ts2, ts1 = tkP x p2 :: ts2 ∧ MT (itRest (itP r)) ts2 (⟨s_rp, s_rp, q, 0, 0⟩ :: rest) := hm
    obtain ⟨k, rfl⟩ : ∃ k', k = k' + 1 := ⟨k - 1, by simp at hk; omega⟩
    rw [name_tk hb.1]
    unfold loopN
    rw [if_neg (show ¬ curK (⟨s_comma, s_comma, p, 0, 0⟩ :: ⟨k_name, x, p2, 0, 0⟩ :: ts2) = s_rp by show ¬ s_comma = s_rp; decide), if_pos hl, take_kt nm_hd, bind_ok, bind_ok, take_kt (ps_hd hm), bind_ok]
    have := names_rest (q := q) (rest := rest) r hb.2 k (l ++ [x]) ts2 (by simp) (by simp at hk; omega) hm
    rw [this, List.append_assoc]; rfl
theorem names_all {q : Nat} {ps : List Bs} {ts rest : List Tk} (hb : (ps.all isNameB) = true) {k : Nat} (hk : ps.length < k) (hm : MT (itArgs (itP ps)) ts (⟨s_rp, s_rp, q, 0, 0⟩ :: rest)) : loopN k [] ts = .ok ps (⟨s_rp, s_rp, q, 0, 0⟩ :: rest) ∧ Hd ts := by
  obtain ⟨k, rfl⟩ : ∃ k', k = k' + 1 := ⟨k - 1, by omega⟩
  cases ps with
  | nil =>
    rw [show ts = _ from hm]
    refine ⟨?_, rp_hd⟩
    unfold loopN
    rw [if_pos (show curK (⟨s_rp, s_rp, q, 0, 0⟩ :: rest) = s_rp from rfl)]
  | cons x r =>
    simp only [List.all_cons, Bool.and_eq_true] at hb
    obtain ⟨p2, ts2, rfl, hm⟩ : ∃ p2 ts2, ts = tkP x p2 :: ts2 ∧ MT (itRest (itP r)) ts2 (⟨s_rp, s_rp, q, 0, 0⟩ :: rest) := hm
    rw [name_tk hb.1]
    refine ⟨?_, nm_hd⟩
    unfold loopN
    rw [if_neg (show ¬ curK (⟨k_name, x, p2, 0, 0⟩ :: ts2) = s_rp by show ¬ k_name = s_rp; decide), if_neg (by simp), bind_ok, take_kt (ps_hd hm), bind_ok]
    have := names_rest (q := q) (rest := rest) r hb.2 k ([] ++ [x]) ts2 (by simp) (by simp at hk; omega) hm
    rw [this]; rfl
theorem itP_len (ps : List Bs) : ps.length ≤ (itArgs (itP ps)).length + 1 := by
  cases ps with
  | nil => simp
  | cons e r =>
    simp only [itP, List.map_cons, itArgs, List.length_cons, List.length_append]
    have := itRest_len (itP r)
    simp only [itP, List.length_map] at this
    omega
theorem f_all {f : Fnc} (hb : fnB f = true) (hr : rgSs f.body) {g : Bs} {ts rest : List Tk} (hn : Hd rest) (hm : MT (itF f g) ts rest) (n : Nat) : Hd ts ∧ curK ts = k_fn ∧ rest.length < ts.length ∧ Rz (nstB f.body 1) (functionP (pf n) ts) (.ok f rest) := by
  simp only [fnB, Bool.and_eq_true] at hb
  have hlen := hm.len
  unfold itF at hm
  obtain ⟨p1, ts1, rfl, p2, ts2, rfl, p3, ts3, rfl, hm⟩ := hm
  obtain ⟨mid, h1, p4, ts4, rfl, h2⟩ := hm.app
  have h1 : MT (itArgs (itP f.params)) ts3 (⟨s_rp, s_rp, p4, 0, 0⟩ :: ts4) := h1
  refine ⟨⟨_, _, rfl, plain_fine (k := k_fn) (by decide)⟩, rfl, by rw [hlen]; simp [itF], ?_⟩
  rw [name_tk hb.1.1]
  obtain ⟨h3, h4⟩ := names_all (k := ts3.length + 1) hb.1.2 (by have := itP_len f.params; rw [h1.len]; simp; omega) h1
  have hlb : Hd ts4 := by
    obtain ⟨p5, ts5, rfl, _⟩ := h2
    exact lb_hd
  show Rz _ (functionP (pf n) (⟨k_fn, k_fn, p1, 0, 0⟩ :: ⟨k_name, f.name, p2, 0, 0⟩ :: ⟨s_lp, s_lp, p3, 0, 0⟩ :: ts3)) _
  unfold functionP
  rw [take_kt nm_hd, bind_ok, take_kt lp_hd, bind_ok, take_kt h4, bind_ok, h3, bind_ok, take_kt hlb, bind_ok]
  exact Rz.bind (block_all (d := 1) hb.2 (sc_body hb.2 hr) hn h2 n) id (N2 := True) Rz.rfl' (fun _ => trivial)
def EndT (e : Tk) : Prop := e.kind = k_end ∧ e.err = 0
theorem l_hd {fs : List Fnc} (hb : (fs.all fnB) = true) {g : Bs} {ts : List Tk} {e : Tk} (he : EndT e) (hm : MT (itL fs g) ts [e]) : Hd ts := by
  cases fs with
  | nil => rw [show ts = _ from hm]; exact ⟨_, _, rfl, he.2, fun h => by rw [he.1] at h; exact absurd h.1 (by decide)⟩
  | cons f r =>
    simp only [itL] at hm
    obtain ⟨mid, ⟨p, ts1, rfl, _⟩, _⟩ := hm.app
    exact ⟨_, _, rfl, plain_fine (k := k_fn) (by decide)⟩
theorem loopF_all {e : Tk} (he : EndT e) {n : Nat} : ∀ (fs : List Fnc), (fs.all fnB) = true → (∀ f ∈ fs, rgSs f.body) → ∀ k l g ts, ts.length ≤ k → MT (itL fs g) ts [e] → Rz (∀ f ∈ fs, nstB f.body 1) (loopF (pf n) k l ts) (.ok (l ++ fs) [e])
  | [], _, _, k, l, g, ts, hk, hm => by
    rw [show ts = [e] from hm] at hk ⊢
    obtain ⟨k, rfl⟩ : ∃ k', k = k' + 1 := ⟨k - 1, by simp at hk; omega⟩
    unfold loopF
    rw [if_pos (show curK [e] = k_end from he.1), List.append_nil]
    exact Rz.rfl'
  | f :: r, hb, hr, k, l, g, ts, hk, hm => by
    simp only [List.all_cons, Bool.and_eq_true] at hb
    simp only [itL] at hm
    obtain ⟨mid, h1, h2⟩ := hm.app
    obtain ⟨_, h4, h5, h6⟩ := f_all hb.1 (hr f (by simp)) (l_hd hb.2 he h2) h1 n
    obtain ⟨k, rfl⟩ : ∃ k', k = k' + 1 := ⟨k - 1, by omega⟩
    unfold loopF
    rw [if_neg (by rw [h4]; decide)]
    refine Rz.bind h6 (fun h => h f (by simp)) (N2 := ∀ f ∈ r, nstB f.body 1) ?_ (fun h x hx => h x (by simp [hx]))
    have := loopF_all he (n := n) r hb.2 (fun x hx => hr x (by simp [hx])) k (l ++ [f]) _ mid (by omega) h2
    rwa [List.append_assoc] at this
theorem parse_of {fs : List Fnc} (hb : treeB fs = true) (hr : ∀ f ∈ fs, rgSs f.body) {g l : Bs} {e : Tk} (he : EndT e) (hm : MT (itL fs g) (words l (l.length + 1) 0) [e]) (fuel : Nat) : Rz (∀ f ∈ fs, nstB f.body 1) (parseP l fuel) (.ok fs [e]) := by
  simp only [treeB, Bool.and_eq_true, decide_eq_true_eq] at hb
  unfold parseP
  rw [step_hd _ (l_hd hb.2 he hm), bind_ok]
  match fs, hb, hr, hm with
  | [], hb, _, _ => exact absurd rfl hb.1
  | f :: r, hb, hr, hm =>
    obtain ⟨_, hb⟩ := hb
    simp only [List.all_cons, Bool.and_eq_true] at hb
    simp only [itL] at hm
    obtain ⟨mid, h1, h2⟩ := hm.app
    obtain ⟨_, h4, h5, h6⟩ := f_all hb.1 (hr f (by simp)) (l_hd hb.2 he h2) h1 fuel
    refine Rz.bind h6 (fun h => h f (by simp)) (N2 := ∀ f ∈ r, nstB f.body 1) ?_ (fun h x hx => h x (by simp [hx]))
    exact loopF_all he (n := fuel) r hb.2 (fun x hx => hr x (by simp [hx])) (mid.length + 1) [f] _ mid (by omega) h2
end Go.Tx
namespace Go.Tx
structure GapOk (g : Bs) : Prop where
  skip : ∀ r p, skp false (g ++ r) p = skp false r (p + g.length)
  hd : ∀ c r, g = c :: r → blank c = true
theorem GapOk.app {a b : Bs} (ha : GapOk a) (hb : GapOk b) : GapOk (a ++ b) := by
  refine ⟨fun r p => ?_, fun c r h => ?_⟩
  · rw [List.append_assoc, ha.skip, hb.skip, List.length_append]; congr 1; omega
  · cases a with
    | nil => exact hb.hd c r h
    | cons x a =>
      have : x = c := by simpa using (List.cons.inj h).1
      exact this ▸ ha.hd x a rfl
def Fol (r : Bs) (o : Option UInt8) : Prop := match o with
  | none => ∀ c r', r = c :: r' → blank c = true
  | some c => ∃ r', r = c :: r'
def sgSafe (w : Bs) (c : UInt8) : Prop := w = s_lp ∨ w = s_rp ∨ w = s_lb ∨ w = s_rb ∨ w = s_comma ∨ w = s_semi ∨ w = s_minus ∨ (w = s_bang ∧ c ≠ 61)
def Wn (w : Bs) : Prop := isNameB w = true ∨ w ∈ keywords
def Ad (w : Bs) (o : Option UInt8) : Prop := (Wn w ∧ ∀ c, o = some c → alnum c = false) ∨ ((∃ m, w = Go.Lib.decDigits m ∧ m ≤ 9223372036854775808) ∧ ∀ c, o = some c → digit c = false) ∨ (w ∈ signs ∧ ∀ c, o = some c → sgSafe w c)
theorem span_all {f : UInt8 → Bool} {r : Bs} : ∀ {w : Bs}, (∀ c ∈ w, f c = true) → (∀ c r', r = c :: r' → f c = false) → spanN f (w ++ r) = w.length
  | [], _, h => by
    cases r with
    | nil => rfl
    | cons c r => rw [List.nil_append, spanN, if_neg (by rw [h c r rfl]; simp)]; rfl
  | c :: w, hw, h => by
    rw [List.cons_append, spanN, if_pos (hw c (by simp)), span_all (fun x hx => hw x (by simp [hx])) h]; rfl
theorem wn_shape {w : Bs} (h : Wn w) : ∃ c r, w = c :: r ∧ letter c = true ∧ ∀ x ∈ w, alnum x = true := by
  rcases h with h | h
  · unfold isNameB at h
    simp only [Bool.and_eq_true, Bool.not_eq_true', Bool.or_eq_false_iff, decide_eq_false_iff_not, List.all_eq_true, List.mem_range] at h
    obtain ⟨⟨⟨h1, h2⟩, h3⟩, h4⟩ := h
    match w, h1 with
    | c :: r, _ =>
      refine ⟨c, r, rfl, by simpa [nmB] using h4 0 (by simp), fun x hx => ?_⟩
      obtain ⟨i, hi, rfl⟩ := List.mem_iff_getElem.1 hx
      have := h4 i hi
      rw [List.getElem?_eq_getElem hi, Option.getD_some] at this
      unfold nmB at this
      unfold alnum
      simp only [Bool.or_eq_true, Bool.and_eq_true] at this ⊢
      rcases this with this | this
      · exact .inl this
      · exact .inr this.2
  · have key : ∀ w ∈ keywords, (match w with | [] => false | c :: _ => letter c) = true ∧ w.all alnum = true := by decide
    obtain ⟨h1, h2⟩ := key w h
    match w, h1, h2 with
    | c :: r, h1, h2 => exact ⟨c, r, rfl, h1, List.all_eq_true.1 h2⟩
theorem blank_no {c : UInt8} (h : blank c = true) : alnum c = false ∧ digit c = false ∧ c.toNat ≠ 47 := by
  unfold blank at h
  simp only [decide_eq_true_eq] at h
  unfold alnum letter digit
  simp only [Bool.or_eq_false_iff, decide_eq_false_iff_not]
  omega
theorem letter_no {c : UInt8} (h : alnum c = true) : blank c = false ∧ c.toNat ≠ 47 := by
  unfold alnum letter digit at h
  unfold blank
  simp only [Bool.or_eq_true, decide_eq_true_eq] at h
  simp only [decide_eq_false_iff_not]
  omega
theorem stop_c {c : UInt8} {r : Bs} (h1 : blank c = false) (h2 : c.toNat = 47 → ∀ d r', r = d :: r' → d.toNat ≠ 47) (p : Nat) : skp false (c :: r) p = p := by
  rw [skp, if_neg (by rw [h1]; simp), if_neg]
  rintro ⟨h3, h4⟩
  cases r with
  | nil => simp at h4
  | cons d r => exact h2 h3 d r rfl (by simpa using h4)
theorem sign_two (x : Bs) : signAt x = signAt (x.take 2) := by
  unfold signAt
  refine find_congr fun t ht => ?_
  have : ∀ t ∈ signs, t.length ≤ 2 := by decide
  have := this t ht
  rw [List.take_take, Nat.min_eq_left this]
theorem take_two {w : Bs} {c : UInt8} {r : Bs} (h : w ≠ []) : (w ++ c :: r).take 2 = (w ++ [c]).take 2 := by
  match w, h with
  | [a], _ => rfl
  | a :: b :: w, _ => rfl
theorem sign_ad {w r : Bs} {o : Option UInt8} (hw : w ∈ signs) (ho : ∀ c, o = some c → sgSafe w c) (hf : Fol r o) : signAt (w ++ r) = some w := by
  have hne : ∀ w ∈ signs, w ≠ [] := by decide
  have hbl : ∀ c, blank c = true → signAt ((w ++ [c]).take 2) = some w := fun c hc => by
    have key : ∀ w ∈ signs, ∀ c ∈ [(32 : UInt8), 9, 10, 13], signAt ((w ++ [c]).take 2) = some w := by decide
    refine key w hw c ?_
    unfold blank at hc
    simp only [decide_eq_true_eq] at hc
    have e : c = UInt8.ofNat c.toNat := by simp
    rw [e]
    rcases hc with h | h | h | h <;> rw [h] <;> decide
  cases o with
  | none =>
    cases r with
    | nil =>
      rw [List.append_nil]
      have key : ∀ w ∈ signs, signAt w = some w := by decide
      exact key w hw
    | cons c r => rw [sign_two, take_two (hne w hw)]; exact hbl c (hf c r rfl)
  | some c =>
    obtain ⟨r', rfl⟩ := hf
    rw [sign_two, take_two (hne w hw)]
    rcases ho c rfl with h | h | h | h | h | h | h | ⟨h, h2⟩ <;> subst h
    · rfl
    · rfl
    · rfl
    · rfl
    · rfl
    · rfl
    · rfl
    · show signAt [33, c] = some [33]
      simp [signAt, signs, s_shl, s_shr, s_le, s_eqq, s_neq, s_andd, s_orr, s_lp, s_rp, s_lb, s_rb, s_comma, s_semi, s_asg, s_plus, s_minus, s_star, s_slash, s_pct, s_amp, s_bar, s_xor, s_lt, s_bang, h2]
theorem read_g {pre g w r : Bs} (hg : GapOk g) (hs : ∀ p, skp false (w ++ r) p = p) {k : Tk} {n : Nat} (hw : (match w ++ r with
    | [] => (⟨k_end, [], (pre ++ (g ++ (w ++ r))).length, 0, 0⟩, (pre ++ (g ++ (w ++ r))).length)
    | c :: r' =>
      if letter c = true then (named ((c :: r').take (spanN alnum (c :: r'))) (pre.length + g.length), pre.length + g.length + spanN alnum (c :: r'))
      else if digit c = true then (number ((c :: r').take (spanN digit (c :: r'))) (pre.length + g.length), pre.length + g.length + spanN digit (c :: r'))
      else match signAt (c :: r') with
        | some t => (⟨t, t, pre.length + g.length, 0, 0⟩, pre.length + g.length + t.length)
        | none => (⟨[], [], pre.length + g.length, 0, 140⟩, pre.length + g.length + 1) : Tk × Nat) = (k, n)) : readT (pre ++ (g ++ (w ++ r))) pre.length = (k, n) := by
  have h1 : (pre ++ (g ++ (w ++ r))).drop pre.length = g ++ (w ++ r) := List.drop_left
  have h2 : skp false (g ++ (w ++ r)) pre.length = pre.length + g.length := by rw [hg.skip, hs]
  have h3 : (pre ++ (g ++ (w ++ r))).drop (pre.length + g.length) = w ++ r := by rw [← List.drop_drop, h1, List.drop_left]
  unfold readT
  rw [h1, h2, h3]
  exact hw
theorem dig_le {c : UInt8} (h : digit c = true) : letter c = false ∧ blank c = false ∧ c.toNat ≠ 47 := by
  unfold digit at h
  unfold letter blank
  simp only [decide_eq_true_eq] at h
  simp only [decide_eq_false_iff_not]
  omega
theorem read_ad {pre g w r : Bs} {o : Option UInt8} (hg : GapOk g) (ha : Ad w o) (hf : Fol r o) : readT (pre ++ (g ++ (w ++ r))) pre.length = (tkP w (pre.length + g.length), pre.length + g.length + w.length) := by
  have nxt : ∀ f : UInt8 → Bool, (∀ c, blank c = true → f c = false) → (∀ c, o = some c → f c = false) → ∀ c r', r = c :: r' → f c = false := fun f h1 h2 c r' h => by
    cases o with
    | none => exact h1 c (hf c r' h)
    | some d =>
      obtain ⟨r2, h3⟩ := hf
      rw [h3] at h
      have := (List.cons.inj h).1
      exact this ▸ h2 d rfl
  rcases ha with ⟨hw, ho⟩ | ⟨⟨m, rfl, hm⟩, ho⟩ | ⟨hw, ho⟩
  · obtain ⟨c, w', rfl, hc, hall⟩ := wn_shape hw
    have hsp := span_all hall (nxt alnum (fun c h => (blank_no h).1) ho)
    have hst := letter_no (hall c (by simp))
    refine read_g hg (fun p => stop_c hst.1 (fun h => absurd h hst.2) p) ?_
    rw [List.cons_append] at hsp ⊢
    dsimp only
    rw [if_pos hc, hsp, ← List.cons_append, List.take_left]
    simp only [tkP]
    rw [if_pos hc]
  · have hd := dec_dig m
    have hne := dec_ne m
    cases hx : Go.Lib.decDigits m with
    | nil => exact absurd hx hne
    | cons c w' =>
      rw [hx] at hd
      have hc := hd c (by simp)
      have hsp := span_all hd (nxt digit (fun c h => (blank_no h).2.1) ho)
      have hst := dig_le hc
      refine read_g hg (fun p => stop_c hst.2.1 (fun h => absurd h hst.2.2) p) ?_
      rw [List.cons_append] at hsp ⊢
      dsimp only
      rw [if_neg (by rw [hst.1]; simp), if_pos hc, hsp, ← List.cons_append, List.take_left]
      simp only [tkP]
      rw [if_neg (by rw [hst.1]; simp), if_pos hc]
  · have hsg : ∀ w ∈ signs, (match w with | [] => false | c :: _ => !letter c && !digit c && !blank c) = true ∧ (match w with | c :: d :: _ => decide (c.toNat ≠ 47) | _ => true) = true := by decide
    obtain ⟨h1, h2⟩ := hsg w hw
    have hat := sign_ad hw ho hf
    match w, hw, h1, h2, ho, hat with
    | c :: w', hw, h1, h2, ho, hat =>
      simp only [Bool.and_eq_true, Bool.not_eq_true'] at h1
      refine read_g hg (fun p => stop_c h1.2 (fun h47 d r' hd => ?_) p) ?_
      · cases w' with
        | cons x y => exact absurd h47 (by simpa using h2)
        | nil =>
          have := nxt (fun c => decide (c.toNat = 47)) (fun c h => by simpa using (blank_no h).2.2) (fun c' hc' => by
            exfalso
            have hc : c = 47 := UInt8.toNat_inj.1 h47
            subst hc
            rcases ho c' hc' with h | h | h | h | h | h | h | ⟨h, _⟩ <;> exact absurd h (by decide)) d r' hd
          simpa using this
      · rw [List.cons_append] at hat ⊢
        dsimp only
        rw [if_neg (by rw [h1.1.1]; simp), if_neg (by rw [h1.1.2]; simp), hat]
        simp only [tkP]
        rw [if_neg (by rw [h1.1.1]; simp), if_neg (by rw [h1.1.2]; simp)]
def nbI (l : List It) (o : Option UInt8) : Option UInt8 := match l with
  | [] => o
  | (g, w) :: _ => if g = [] then w.head? else none
def AdjK : List It → Option UInt8 → Prop
  | [], _ => True
  | (g, w) :: l, o => Ad w (nbI l o) ∧ AdjK l o
def GapsOk (l : List It) : Prop := ∀ x ∈ l, GapOk x.1
theorem AdjK.app : ∀ {a b : List It} {o : Option UInt8}, AdjK a (nbI b o) → AdjK b o → AdjK (a ++ b) o
  | [], b, o, _, hb => hb
  | (g, w) :: a, b, o, ha, hb => by
    refine ⟨?_, AdjK.app ha.2 hb⟩
    cases a with
    | nil => exact ha.1
    | cons x a => exact ha.1
theorem ad_ne {w : Bs} {o : Option UInt8} (h : Ad w o) : w ≠ [] := by
  rcases h with ⟨h, _⟩ | ⟨⟨m, rfl, _⟩, _⟩ | ⟨h, _⟩
  · obtain ⟨c, r, h, _⟩ := wn_shape h
    rw [h]; simp
  · exact dec_ne m
  · have : ∀ w ∈ signs, w ≠ [] := by decide
    exact this w h
theorem ad_tk {w : Bs} {o : Option UInt8} (h : Ad w o) (p : Nat) : (tkP w p).err = 0 ∧ (tkP w p).kind ≠ k_end := by
  rcases h with ⟨h | h, _⟩ | ⟨⟨m, rfl, hm⟩, _⟩ | ⟨h, _⟩
  · rw [name_tk h]; exact ⟨rfl, by show k_name ≠ k_end; decide⟩
  · have key : ∀ w ∈ keywords, (match w with | [] => false | c :: _ => letter c) = true ∧ isKw w = true ∧ w ≠ k_end := by decide
    obtain ⟨h1, h2, h3⟩ := key w h
    match w, h1, h2, h3 with
    | c :: r, h1, h2, h3 =>
      simp only [tkP]
      rw [if_pos h1]
      unfold named
      rw [if_pos h2]
      exact ⟨rfl, h3⟩
  · rw [dec_tk hm]; exact ⟨rfl, by show k_number ≠ k_end; decide⟩
  · have key : ∀ w ∈ signs, (match w with | [] => false | c :: _ => !letter c && !digit c) = true ∧ w ≠ k_end := by decide
    obtain ⟨h1, h3⟩ := key w h
    match w, h1, h3 with
    | c :: r, h1, h3 =>
      simp only [Bool.and_eq_true, Bool.not_eq_true'] at h1
      simp only [tkP]
      rw [if_neg (by rw [h1.1]; simp), if_neg (by rw [h1.2]; simp)]
      exact ⟨rfl, h3⟩
theorem fol_of {l : List It} {t : Bs} (hg : GapsOk l) (ht : GapOk t) (ha : AdjK l none) : Fol (rnd l ++ t) (nbI l none) := by
  cases l with
  | nil => exact fun c r h => ht.hd c r h
  | cons x l =>
    obtain ⟨g, w⟩ := x
    have hgg : GapOk g := hg (g, w) (by simp)
    unfold nbI
    dsimp only
    split
    · rename_i h0
      subst h0
      have hne := ad_ne ha.1
      match w, hne with
      | c :: w, _ => exact ⟨w ++ (rnd l ++ t), by rw [rnd_cons]; simp⟩
    · rename_i h0
      intro c r h
      match g, h0, hgg with
      | d :: g, _, hgg =>
        rw [rnd_cons, List.cons_append, List.cons_append] at h
        exact (List.cons.inj h).1 ▸ hgg.hd d g rfl
theorem words_it : ∀ (l : List It) (t : Bs), GapsOk l → GapOk t → AdjK l none → ∀ pre n, l.length < n → MT l (words (pre ++ (rnd l ++ t)) n pre.length) [⟨k_end, [], (pre ++ (rnd l ++ t)).length, 0, 0⟩]
  | [], t, _, ht, _, pre, n, hn => by
    obtain ⟨n, rfl⟩ : ∃ k', n = k' + 1 := ⟨n - 1, by simp at hn; omega⟩
    have h1 : (pre ++ (rnd [] ++ t)).drop pre.length = t := by rw [List.drop_left]; rfl
    have h2 : skp false t pre.length = pre.length + t.length := by
      have := ht.skip [] pre.length
      rw [List.append_nil] at this
      exact this
    have h3 : readT (pre ++ (rnd [] ++ t)) pre.length = (⟨k_end, [], (pre ++ (rnd [] ++ t)).length, 0, 0⟩, (pre ++ (rnd [] ++ t)).length) := by
      unfold readT
      rw [h1, h2, List.drop_eq_nil_of_le (by rw [rnd_nil]; simp)]
    show words _ _ _ = _
    unfold words
    rw [h3, if_pos (.inr rfl)]
  | (g, w) :: l, t, hg, ht, ha, pre, n, hn => by
    obtain ⟨n, rfl⟩ : ∃ k', n = k' + 1 := ⟨n - 1, by simp at hn; omega⟩
    have hg2 : GapsOk l := fun x hx => hg x (by simp [hx])
    have e1 : pre ++ (rnd ((g, w) :: l) ++ t) = pre ++ (g ++ (w ++ (rnd l ++ t))) := by rw [rnd_cons]; simp
    have e2 : pre ++ (rnd ((g, w) :: l) ++ t) = (pre ++ g ++ w) ++ (rnd l ++ t) := by rw [rnd_cons]; simp
    have hr := read_ad (pre := pre) (hg (g, w) (by simp)) ha.1 (fol_of hg2 ht ha.2)
    have htk := ad_tk ha.1 (pre.length + g.length)
    have ih := words_it l t hg2 ht ha.2 (pre ++ g ++ w) n (by simp at hn; omega)
    rw [← e1] at hr
    rw [← e2] at ih
    refine ⟨pre.length + g.length, words (pre ++ (rnd ((g, w) :: l) ++ t)) n (pre.length + g.length + w.length), ?_, ?_⟩
    · conv => lhs; unfold words
      rw [hr, if_neg (by rintro (h | h); exact h htk.1; exact htk.2 h)]
    · rw [show (pre ++ g ++ w).length = pre.length + g.length + w.length by simp; omega] at ih
      exact ih
end Go.Tx
namespace Go.Tx
def Os (o : Option UInt8) : Prop := o = none ∨ o = some 41 ∨ o = some 44 ∨ o = some 59
theorem ad_lp (o : Option UInt8) : Ad s_lp o := .inr (.inr ⟨by decide, fun _ _ => .inl rfl⟩)
theorem ad_rp (o : Option UInt8) : Ad s_rp o := .inr (.inr ⟨by decide, fun _ _ => .inr (.inl rfl)⟩)
theorem ad_lb (o : Option UInt8) : Ad s_lb o := .inr (.inr ⟨by decide, fun _ _ => .inr (.inr (.inl rfl))⟩)
theorem ad_rb (o : Option UInt8) : Ad s_rb o := .inr (.inr ⟨by decide, fun _ _ => .inr (.inr (.inr (.inl rfl)))⟩)
theorem ad_comma (o : Option UInt8) : Ad s_comma o := .inr (.inr ⟨by decide, fun _ _ => .inr (.inr (.inr (.inr (.inl rfl))))⟩)
theorem ad_semi (o : Option UInt8) : Ad s_semi o := .inr (.inr ⟨by decide, fun _ _ => .inr (.inr (.inr (.inr (.inr (.inl rfl)))))⟩)
theorem ad_minus (o : Option UInt8) : Ad s_minus o := .inr (.inr ⟨by decide, fun _ _ => .inr (.inr (.inr (.inr (.inr (.inr (.inl rfl))))))⟩)
theorem ad_bang {o : Option UInt8} (h : o ≠ some 61) : Ad s_bang o := .inr (.inr ⟨by decide, fun c hc => .inr (.inr (.inr (.inr (.inr (.inr (.inr ⟨rfl, fun e => h (by rw [hc, e])⟩))))))⟩)
theorem ad_none {w : Bs} (h : w ∈ signs) : Ad w none := .inr (.inr ⟨h, fun _ h => by cases h⟩)
theorem os_no {o : Option UInt8} (h : Os o) : ∀ c, o = some c → alnum c = false ∧ digit c = false := by
  intro c hc
  rcases h with rfl | rfl | rfl | rfl <;> cases hc <;> decide
theorem ad_name {w : Bs} {o : Option UInt8} (h : isNameB w = true) (ho : Os o ∨ o = some 40) : Ad w o := by
  refine .inl ⟨.inl h, fun c hc => ?_⟩
  rcases ho with ho | ho
  · exact (os_no ho c hc).1
  · rw [ho] at hc; cases hc; decide
theorem ad_kw {w : Bs} {o : Option UInt8} (h : w ∈ keywords) (ho : Os o ∨ o = some 40) : Ad w o := by
  refine .inl ⟨.inr h, fun c hc => ?_⟩
  rcases ho with ho | ho
  · exact (os_no ho c hc).1
  · rw [ho] at hc; cases hc; decide
theorem ad_dec {m : Nat} {o : Option UInt8} (hm : m ≤ 9223372036854775808) (ho : Os o) : Ad (Go.Lib.decDigits m) o := .inr (.inl ⟨⟨m, rfl, hm⟩, fun c hc => (os_no ho c hc).2⟩)
def AF (f : Bs → List It) : Prop := ∀ g o, Os o → AdjK (f g) o
theorem nb_rest (fs : List (Bs → List It)) (l : List It) (o : Option UInt8) : Os (nbI (itRest fs ++ ([], s_rp) :: l) o) := by
  cases fs with
  | nil => exact .inr (.inl rfl)
  | cons f r => exact .inr (.inr (.inl rfl))
theorem adj_rest {l : List It} {o : Option UInt8} (hl : AdjK l o) : ∀ fs : List (Bs → List It), (∀ f ∈ fs, AF f) → AdjK (itRest fs ++ ([], s_rp) :: l) o
  | [], _ => ⟨ad_rp _, hl⟩
  | f :: r, h => by
    refine ⟨ad_comma _, ?_⟩
    show AdjK ((f [32] ++ itRest r) ++ ([], s_rp) :: l) o
    rw [List.append_assoc]
    exact AdjK.app (h f (by simp) _ _ (nb_rest r l o)) (adj_rest hl r fun x hx => h x (by simp [hx]))
theorem adj_args {l : List It} {o : Option UInt8} (hl : AdjK l o) (fs : List (Bs → List It)) (h : ∀ f ∈ fs, AF f) : AdjK (itArgs fs ++ ([], s_rp) :: l) o := by
  cases fs with
  | nil => exact ⟨ad_rp _, hl⟩
  | cons f r =>
    show AdjK ((f [] ++ itRest r) ++ ([], s_rp) :: l) o
    rw [List.append_assoc]
    exact AdjK.app (h f (by simp) _ _ (nb_rest r l o)) (adj_rest hl r fun x hx => h x (by simp [hx]))
theorem adj_par {f : Bs → List It} (h : AF f) (b : Bool) : AF (itPar b f) := by
  intro g o ho
  unfold itPar
  split
  · exact ⟨ad_lp _, AdjK.app (h [] _ (.inr (.inl rfl))) ⟨ad_rp _, trivial⟩⟩
  · exact h g o ho
theorem Fw.hd {w : Bs} (h : Fw w) : w.head? ≠ some 61 := by
  rcases h with h | h | h | h | ⟨m, h, hm⟩ | h | h | h | h
  · subst h; decide
  · subst h; decide
  · subst h; decide
  · obtain ⟨c, r, rfl, hc, _⟩ := wn_shape (.inl h)
    intro e
    have : c = 61 := by simpa using e
    subst this
    exact absurd hc (by decide)
  · subst h
    have hd := dec_dig m
    cases hx : Go.Lib.decDigits m with
    | nil => simp
    | cons c r =>
      intro e
      have : c = 61 := by simpa using e
      subst this
      exact absurd (hd 61 (by rw [hx]; simp)) (by decide)
  · subst h; decide
  · subst h; decide
  · subst h; decide
  · subst h; decide
theorem par_fst (b : Bool) {e : Ex} (g : Bs) (hb : exB e = true) (hr : rgE e) : ∃ w tl, itPar b (itE e) g = (g, w) :: tl ∧ Fw w := by
  unfold itPar
  split
  · exact ⟨_, _, rfl, .inl rfl⟩
  · exact itE_fst e g hb hr
theorem nb_g {l : List It} {g w : Bs} {tl : List It} {o : Option UInt8} (h : l = (g, w) :: tl) (hg : g ≠ []) : nbI l o = none := by
  rw [h]; unfold nbI; dsimp only; rw [if_neg hg]
theorem nb_e {l : List It} {w : Bs} {tl : List It} {o : Option UInt8} (h : l = ([], w) :: tl) : nbI l o = w.head? := by
  rw [h]; unfold nbI; dsimp only; rw [if_pos rfl]
theorem sgK_mem {kd o : Int} (h : (sgK kd o).1 ≠ []) : (sgK kd o).1 ∈ signs := by
  have hst := (sg_stands (kd := kd) (o := o) (s := (sgK kd o).1) (lv := (sgK kd o).2) rfl h).1
  obtain ⟨_, l, h2, h3⟩ := stands_lt hst
  have key : (levels.all fun l => l.all fun s => signs.contains s) = true := by decide
  exact List.contains_iff_mem.1 (List.all_eq_true.1 (List.all_eq_true.1 key l (List.mem_of_getElem? h2)) _ h3)
mutual
theorem adjE : ∀ (e : Ex), exB e = true → rgE e → AF (itE e)
  | .mk kd o n nm cb ks, hb, hr, g, o', ho => by
    simp only [exB, Bool.and_eq_true] at hb
    have hh := hb.2
    have ih := adjEs ks hb.1 hr.2
    have hk : ∀ x ∈ ks, exB x = true ∧ rgE x := fun x hx => ⟨exB_of hb.1 hx, rgE_of hr.2 hx⟩
    simp only [itE]
    unfold itN
    split
    · rename_i hne
      have h2 := kids_two hh hne
      match ks, h2, hk, ih with
      | [a, b], _, hk, ih =>
        have ha : AF (itE a) := ih _ (by simp [itEs])
        have hb : AF (itE b) := ih _ (by simp [itEs])
        obtain ⟨w, tl, h1, _⟩ := par_fst (decide ((sgE ([a, b].getD 1 .zero)).2 ≤ (sgK kd o).2)) [32] (hk b (by simp)).1 (hk b (by simp)).2
        refine AdjK.app ?_ ⟨?_, ?_⟩
        · exact adj_par ha _ g _ (.inl (nb_g rfl (by simp)))
        · rw [show nbI (itPar (decide ((sgE ([a, b].getD 1 .zero)).2 ≤ (sgK kd o).2)) (kidI (itEs [a, b]) 1) [32]) o' = none from nb_g h1 (by simp)]
          exact ad_none (sgK_mem hne)
        · exact adj_par hb _ _ _ ho
    · split
      · split
        · exact ⟨ad_minus _, ad_dec (by have := hr.1; omega) ho, trivial⟩
        · exact ⟨ad_dec (by have := hr.1; omega) ho, trivial⟩
      · split
        · rename_i h1
          exact ⟨ad_name (by simp [hdB, h1] at hh; exact hh.2) (.inl ho), trivial⟩
        · split
          · rename_i h2
            have hm : ks.length = 1 := by simp [hdB, h2] at hh; exact hh.1.1.1.1
            match ks, hm, ih with
            | [a], _, ih => exact ⟨ad_minus _, adj_par (ih (itE a) (by simp [itEs])) _ _ _ ho⟩
          · split
            · rename_i h3
              have hm : ks.length = 1 := by simp [hdB, h3] at hh; exact hh.1.1.1.1
              match ks, hm, ih, hk with
              | [a], _, ih, hk =>
                obtain ⟨w, tl, h1, h2⟩ := par_fst (decide ((sgE ([a].getD 0 .zero)).1 ≠ [])) [] (hk a (by simp)).1 (hk a (by simp)).2
                refine ⟨ad_bang ?_, adj_par (ih (itE a) (by simp [itEs])) _ _ _ ho⟩
                rw [show nbI (itPar (decide ((sgE ([a].getD 0 .zero)).1 ≠ [])) (kidI (itEs [a]) 0) []) o' = w.head? from nb_e h1]
                exact h2.hd
            · split
              · rename_i hsg _ _ _ _ h4
                subst h4
                have hop : opNm o ≠ [] := by simp [hdB] at hh; exact hh.1.1.1.2
                refine ⟨ad_kw ?_ (.inr rfl), ad_lp _, adj_args (l := []) (o := o') trivial _ ih⟩
                rcases (minmax hop hsg).1 with h | h <;> rw [h] <;> decide
              · split
                · rename_i h5
                  exact ⟨ad_name (by simp [hdB, h5] at hh; exact hh.2) (.inr rfl), ad_lp _, adj_args (l := []) (o := o') trivial _ ih⟩
                · split
                  · rename_i h6
                    have hnn : isNameB nm = true ∧ isNameB cb = true := by simp [hdB, h6] at hh; exact ⟨hh.1.2, hh.2⟩
                    exact ⟨ad_kw (by decide) (.inr rfl), ad_lp _, ad_name hnn.1 (.inl (.inr (.inr (.inl rfl)))), ad_comma _, ad_name hnn.2 (.inl (nb_rest _ _ _)), adj_rest (l := []) (o := o') trivial _ ih⟩
                  · have hnn : isNameB nm = true := by
                      rename_i k8 k0 k1 k2 k3 k4 k5 k6
                      unfold hdB at hh
                      repeat' split at hh
                      all_goals first | (exfalso; simp at hh; done) | (exfalso; omega) | (simp only [Bool.and_eq_true] at hh; exact hh.2) | skip
                      all_goals (exfalso; rename_i h8; rcases h8 with h8 | h8 <;> subst h8)
                      · exact k8 (by show (sgn2 s_andd).1 ≠ []; decide)
                      · exact k8 (by show (sgn2 s_orr).1 ≠ []; decide)
                    exact ⟨ad_kw (by decide) (.inr rfl), ad_lp _, ad_name hnn (.inl (nb_rest _ _ _)), adj_rest (l := []) (o := o') trivial _ ih⟩
theorem adjEs : ∀ (l : List Ex), exBs l = true → rgEs l → ∀ f ∈ itEs l, AF f
  | [], _, _, f, h => by simp [itEs] at h
  | e :: r, hb, hr, f, h => by
    simp only [exBs, Bool.and_eq_true] at hb
    simp only [itEs, List.mem_cons] at h
    rcases h with rfl | h
    · exact adjE e hb.1 hr.1
    · exact adjEs r hb.2 hr.2 f h
end
theorem nb_b {b : List St} {o : Nat} {x : It} {l : List It} {o' : Option UInt8} (hb : stBs b = true) (hx : x.1 ≠ []) : nbI (itB o b ++ x :: l) o' = none := by
  cases b with
  | nil => exact nb_g (g := x.1) (w := x.2) rfl hx
  | cons s r =>
    simp only [stBs, Bool.and_eq_true] at hb
    obtain ⟨w, tl, h1, _⟩ := itS_fst s o (nlT o) hb.1
    refine nb_g (g := nlT o) (w := w) (tl := tl ++ (itB o r ++ x :: l)) ?_ (by simp [nlT])
    simp only [itB]
    rw [h1]; simp
theorem adj_e {e : Ex} (hb : exB e = true) (hr : rgE e) {g g2 w : Bs} {l : List It} {o : Option UInt8} (h1 : g2 ≠ [] ∨ w = s_semi) (h : AdjK ((g2, w) :: l) o) : AdjK (itE e g ++ (g2, w) :: l) o := by
  refine AdjK.app (adjE e hb hr g _ ?_) h
  by_cases hg : g2 = []
  · have hw : w = s_semi := by rcases h1 with h1 | h1; exact absurd hg h1; exact h1
    subst hg hw
    exact .inr (.inr (.inr rfl))
  · exact .inl (nb_g rfl hg)
theorem nb_ex {e : Ex} (hb : exB e = true) (hr : rgE e) {l : List It} {o : Option UInt8} : nbI (itE e [32] ++ l) o = none := by
  obtain ⟨w, tl, h1, _⟩ := itE_fst e [32] hb hr
  rw [h1]
  exact nb_g rfl (by simp)
theorem kn {w : Bs} (h : w ∈ keywords) : Ad w none := ad_kw h (.inl (.inl rfl))
theorem nn {w : Bs} (h : isNameB w = true) : Ad w none := ad_name h (.inl (.inl rfl))
mutual
theorem adjS : ∀ (s : St) (o : Nat) (g : Bs), stB s = true → rgS s → AdjK (itS o s g) none
  | .mk kd nm e b f, o, g, h, hr => by
    have hc := st_cases h
    simp only [itS]
    have sem : AdjK [(([] : Bs), s_semi)] none := ⟨ad_semi _, trivial⟩
    have key : ∀ {w : Bs}, w ∈ keywords → ∀ {l : List It} {o : Option UInt8}, exB e = true → Ad w (nbI (itE e [32] ++ l) o) := fun hw l o he => by rw [nb_ex he hr.1]; exact kn hw
    rcases hc with h | h | h | h | h | h | h | h | h | h
    · rw [h.1]
      exact ⟨kn (by decide), nn h.2.1, by show Ad s_asg (nbI (itE e [32] ++ _) none); rw [nb_ex h.2.2.1 hr.1]; exact ad_none (by decide), adj_e h.2.2.1 hr.1 (.inr rfl) sem⟩
    · rw [h.1]
      exact ⟨nn h.2.1, by show Ad s_asg (nbI (itE e [32] ++ _) none); rw [nb_ex h.2.2.1 hr.1]; exact ad_none (by decide), adj_e h.2.2.1 hr.1 (.inr rfl) sem⟩
    · rw [h.1]
      exact ⟨kn (by decide), nn h.2.1, by show Ad s_asg (nbI (itE e [32] ++ _) none); rw [nb_ex h.2.2.2.1 hr.1]; exact ad_none (by decide), adj_e h.2.2.2.1 hr.1 (.inr rfl) sem⟩
    · rw [h.1]; exact ⟨ad_kw (by decide) (.inl (.inr (.inr (.inr rfl)))), sem⟩
    · rw [h.1]; exact ⟨ad_kw (by decide) (.inl (.inr (.inr (.inr rfl)))), sem⟩
    · rw [h.1]; exact ⟨ad_kw (by decide) (.inl (.inr (.inr (.inr rfl)))), sem⟩
    · rw [h.1]; exact ⟨key (by decide) h.2.2.1, adj_e h.2.2.1 hr.1 (.inr rfl) sem⟩
    · rw [h.1]; exact ⟨key (by decide) h.2.2.1, adj_e h.2.2.1 hr.1 (.inr rfl) sem⟩
    · rw [h.1]
      exact ⟨key (by decide) h.2.2.1, adj_e h.2.2.1 hr.1 (.inl (by simp)) ⟨ad_lb _, adjB b (o + 1) h.2.2.2.1 hr.2.1 _ _ (by simp [nlT]) ⟨ad_rb _, trivial⟩⟩⟩
    · rw [h.1]
      refine ⟨key (by decide) h.2.2.1, adj_e h.2.2.1 hr.1 (.inl (by simp)) ⟨ad_lb _, adjB b (o + 1) h.2.2.2.1 hr.2.1 _ _ (by simp [nlT]) ⟨ad_rb _, ?_⟩⟩⟩
      match f, h.2.2.2.2, hr.2.2 with
      | [], _, _ => exact trivial
      | .mk kd2 nm2 e2 b2 f2 :: r, hf, hrf =>
        simp only [itElse]
        split
        · have hs1 : stB (.mk kd2 nm2 e2 b2 f2) = true := by simp only [stBs, Bool.and_eq_true] at hf; exact hf.1
          obtain ⟨w, tl, h1, _⟩ := itS_fst (.mk kd2 nm2 e2 b2 f2) o [32] hs1
          simp only [itH]
          refine ⟨?_, adjS (.mk kd2 nm2 e2 b2 f2) o [32] hs1 hrf.1⟩
          rw [nb_g h1 (by simp)]
          exact kn (by decide)
        · exact ⟨kn (by decide), ad_lb _, adjB (.mk kd2 nm2 e2 b2 f2 :: r) (o + 1) hf hrf _ _ (by simp [nlT]) ⟨ad_rb _, trivial⟩⟩
theorem adjB : ∀ (b : List St) (o : Nat), stBs b = true → rgSs b → ∀ (x : It) (l : List It), x.1 ≠ [] → AdjK (x :: l) none → AdjK (itB o b ++ x :: l) none
  | [], o, _, _, x, l, _, h => h
  | s :: r, o, hb, hr, x, l, hx, h => by
    simp only [stBs, Bool.and_eq_true] at hb
    simp only [itB]
    rw [List.append_assoc]
    refine AdjK.app ?_ (adjB r o hb.2 hr.2 x l hx h)
    rw [nb_b hb.2 hx]
    exact adjS s o (nlT o) hb.1 hr.1
end
theorem adjP : ∀ (ps : List Bs), (ps.all isNameB) = true → ∀ f ∈ itP ps, AF f
  | [], _, f, h => by simp [itP] at h
  | p :: r, hb, f, h => by
    simp only [List.all_cons, Bool.and_eq_true] at hb
    simp only [itP, List.map_cons, List.mem_cons] at h
    rcases h with rfl | h
    · exact fun g o ho => ⟨ad_name hb.1 (.inl ho), trivial⟩
    · exact adjP r hb.2 f h
theorem adjF {f : Fnc} (g : Bs) (hb : fnB f = true) (hr : rgSs f.body) : AdjK (itF f g) none := by
  simp only [fnB, Bool.and_eq_true] at hb
  unfold itF
  exact ⟨kn (by decide), ad_name hb.1.1 (.inr rfl), ad_lp _, adj_args (l := ([32], s_lb) :: (itB 1 f.body ++ [([10], s_rb)])) (o := none) ⟨ad_lb _, adjB f.body 1 hb.2 hr ([10], s_rb) [] (by simp) ⟨ad_rb _, trivial⟩⟩ _ (adjP f.params hb.1.2)⟩
theorem adjL : ∀ (fs : List Fnc) (g : Bs), (fs.all fnB) = true → (∀ f ∈ fs, rgSs f.body) → AdjK (itL fs g) none
  | [], _, _, _ => trivial
  | f :: r, g, hb, hr => by
    simp only [List.all_cons, Bool.and_eq_true] at hb
    simp only [itL]
    refine AdjK.app ?_ (adjL r [10] hb.2 fun x hx => hr x (by simp [hx]))
    have : nbI (itL r [10]) none = none := by
      cases r with
      | nil => rfl
      | cons x r => exact nb_g (g := [10]) (w := k_fn) rfl (by simp)
    rw [this]
    exact adjF g hb.1 (hr f (by simp))
end Go.Tx
namespace Go.Tx
def Bk (g : Bs) : Prop := ∀ c ∈ g, c = 32 ∨ c = 9 ∨ c = 10
def GBk (l : List It) : Prop := ∀ x ∈ l, Bk x.1
theorem GBk.cons {x : It} {l : List It} (h : Bk x.1) (hl : GBk l) : GBk (x :: l) := fun y hy => by
  rcases List.mem_cons.1 hy with rfl | hy
  · exact h
  · exact hl y hy
def Shp : List It → List It → Prop
  | [], [] => True
  | x :: l, y :: l' => y.2 = x.2 ∧ (x.1 = [] ↔ y.1 = []) ∧ Shp l l'
  | _, _ => False
theorem Shp.nb : ∀ {l l' : List It} {o : Option UInt8}, Shp l l' → nbI l' o = nbI l o
  | [], [], _, _ => rfl
  | (g, w) :: l, (g', w') :: l', o, h => by
    obtain ⟨h1, h2, _⟩ := h
    simp only at h1 h2
    unfold nbI
    dsimp only
    rw [h1]
    by_cases hg : g = []
    · rw [if_pos hg, if_pos (h2.1 hg)]
    · rw [if_neg hg, if_neg (fun h => hg (h2.2 h))]
theorem Shp.adj : ∀ {l l' : List It} {o : Option UInt8}, Shp l l' → AdjK l o → AdjK l' o
  | [], [], _, _, _ => trivial
  | (g, w) :: l, (g', w') :: l', o, h, ha => by
    have h1 : w' = w := h.1
    refine ⟨?_, Shp.adj h.2.2 ha.2⟩
    rw [h1, Shp.nb h.2.2]
    exact ha.1
theorem Shp.mt : ∀ {l l' : List It} {ts rest : List Tk}, Shp l l' → MT l' ts rest → MT l ts rest
  | [], [], _, _, _, h => h
  | (g, w) :: l, (g', w') :: l', ts, rest, h, hm => by
    obtain ⟨p, ts', h1, h2⟩ := hm
    have hw : w' = w := h.1
    refine ⟨p, ts', ?_, Shp.mt h.2.2 h2⟩
    rw [h1]; show tkP w' p :: ts' = tkP w p :: ts'; rw [hw]
theorem rnd_len : ∀ {l : List It} {o : Option UInt8}, AdjK l o → l.length ≤ (rnd l).length
  | [], _, _ => Nat.le_refl _
  | (g, w) :: l, o, h => by
    have h1 := ad_ne h.1
    have := rnd_len h.2
    have : 1 ≤ w.length := by cases w with | nil => exact absurd rfl h1 | cons c r => simp
    rw [rnd_cons]
    simp only [List.length_append, List.length_cons]
    omega
theorem reads {fs : List Fnc} (hb : treeB fs = true) (hr : ∀ f ∈ fs, rgSs f.body) {L : List It} (hs : Shp (itL fs []) L) (hg : GapsOk L) {t : Bs} (ht : GapOk t) (fuel : Nat) : ∃ e, Rz (∀ f ∈ fs, nstB f.body 1) (parseP (rnd L ++ t) fuel) (.ok fs [e]) := by
  have hb2 := hb
  simp only [treeB, Bool.and_eq_true, decide_eq_true_eq] at hb2
  have ha := hs.adj (adjL fs [] hb2.2 hr)
  have hlen := rnd_len ha
  have hw := words_it L t hg ht ha [] ((rnd L ++ t).length + 1) (by simp; omega)
  exact ⟨_, parse_of hb hr (e := ⟨k_end, [], _, 0, 0⟩) ⟨rfl, rfl⟩ (hs.mt hw) fuel⟩
end Go.Tx
namespace Go.Tx
def Ne {α : Type} (r : Res α) : Prop := match r with
  | .err e _ => e ≠ 0
  | _ => True
theorem Ne.bind {α β : Type} {r : Res α} {k : α → List Tk → Res β} (h : Ne r) (hk : ∀ a ts, Ne (k a ts)) : Ne (r.bind k) := by
  cases r with
  | out => exact trivial
  | err e p => exact h
  | ok a ts => exact hk a ts
end Go.Tx
namespace Go.Tx
theorem skp_take : ∀ (b : Bool) (x : Bs) (k a : Nat), k ≤ x.length → skp b x a ≤ a + k → skp b (x.take k) a = skp b x a
  | b, [], k, a, hk, _ => by
    have : k = 0 := by simpa using hk
    subst this; rfl
  | false, c :: r, 0, a, _, h => by
    have := (skp_range false (c :: r) a).1
    rw [List.take_zero]
    show a = _
    omega
  | true, c :: r, 0, a, _, h => by
    have := (skp_range true (c :: r) a).1
    rw [List.take_zero]
    show a = _
    omega
  | false, c :: r, k + 1, a, hk, h => by
    have hk' : k ≤ r.length := by simpa using hk
    rw [List.take_succ_cons]
    rw [skp] at h ⊢
    conv => rhs; rw [skp]
    by_cases hb : blank c = true
    · rw [if_pos hb] at h ⊢
      rw [if_pos hb]
      exact skp_take false r k (a + 1) hk' (by omega)
    · rw [if_neg hb] at h ⊢
      rw [if_neg hb]
      by_cases hc : c.toNat = 47 ∧ r.head?.map UInt8.toNat = some 47
      · rw [if_pos hc] at h
        rw [if_pos hc]
        have hk1 : 1 ≤ k := by
          cases r with
          | nil => simp at hc
          | cons d r =>
            have hd : d.toNat = 47 := by simpa using hc.2
            rw [skp, if_neg (by omega)] at h
            have := (skp_range true r (a + 1 + 1)).1
            omega
        have hh : (r.take k).head? = r.head? := by
          cases r with
          | nil => simp
          | cons d r =>
            obtain ⟨k, rfl⟩ : ∃ k', k = k' + 1 := ⟨k - 1, by omega⟩
            rfl
        rw [if_pos (by rw [hh]; exact hc)]
        exact skp_take true r k (a + 1) hk' (by omega)
      · rw [if_neg hc]
        rw [if_neg]
        rintro ⟨h1, h2⟩
        refine hc ⟨h1, ?_⟩
        cases r with
        | nil => simp at h2
        | cons d r =>
          cases k with
          | zero => simp at h2
          | succ k => simpa using h2
  | true, c :: r, k + 1, a, hk, h => by
    have hk' : k ≤ r.length := by simpa using hk
    rw [List.take_succ_cons]
    rw [skp] at h ⊢
    conv => rhs; rw [skp]
    split at h
    · rename_i h1
      rw [if_pos h1, if_pos h1]
      exact skp_take false r k (a + 1) hk' (by omega)
    · rename_i h1
      rw [if_neg h1, if_neg h1]
      exact skp_take true r k (a + 1) hk' (by omega)
theorem span_take (f : UInt8 → Bool) : ∀ (x : Bs) (k : Nat), spanN f x ≤ k → spanN f (x.take k) = spanN f x
  | [], k, _ => by simp
  | c :: r, 0, h => by rw [List.take_zero]; show 0 = _; omega
  | c :: r, k + 1, h => by
    rw [List.take_succ_cons]
    rw [spanN] at h ⊢
    conv => rhs; rw [spanN]
    split at h
    · rename_i h1
      rw [if_pos h1, if_pos h1, span_take f r k (by omega)]
    · rename_i h1
      rw [if_neg h1, if_neg h1]
theorem find_take {x : Bs} {k : Nat} {t : Bs} : ∀ {L : List Bs}, L.find? (fun t => x.take t.length == t) = some t → t.length ≤ k → L.find? (fun t => (x.take k).take t.length == t) = some t
  | [], h, _ => by simp at h
  | s :: L, h, hk => by
    rw [List.find?_cons] at h ⊢
    split at h
    · rename_i h1
      simp only [Option.some.injEq] at h
      subst h
      rw [List.take_take, Nat.min_eq_left hk, h1]
    · rename_i h1
      have : ((x.take k).take s.length == s) = false := by
        rw [beq_eq_false_iff_ne]
        intro e
        have hl := congrArg List.length e
        rw [List.length_take, List.length_take] at hl
        rw [List.take_take] at e
        rw [show min s.length k = s.length by omega] at e
        rw [e] at h1
        simp at h1
      rw [this]
      exact find_take h hk
theorem read_at {l : Bs} {a : Nat} : (readT l a).1.kind ≠ k_end → (readT l a).1.at_ = skp false (l.drop a) a := by
  unfold readT
  cases hc : l.drop (skp false (l.drop a) a) with
  | nil => exact fun h => absurd rfl h
  | cons c r =>
    intro _
    dsimp only
    split
    · unfold named; split <;> rfl
    · split
      · unfold number; split <;> rfl
      · split <;> rfl
theorem read_take {l : Bs} {a p : Nat} (ha : a ≤ p) (hp : p ≤ l.length) (h1 : (readT l a).1.kind ≠ k_end) (h0 : (readT l a).1.err = 0) (h2 : (readT l a).2 ≤ p) : readT (l.take p) a = readT l a := by
  obtain ⟨r1, r2⟩ := skp_range false (l.drop a) a
  rw [List.length_drop] at r2
  have hd : (l.take p).drop a = (l.drop a).take (p - a) := by rw [List.drop_take]
  by_cases hlt : skp false (l.drop a) a < l.length
  · obtain ⟨c, r, hcr⟩ : ∃ c r, l.drop (skp false (l.drop a) a) = c :: r := ⟨_, _, List.drop_eq_getElem_cons hlt⟩
    have hle : skp false (l.drop a) a ≤ p := by
      revert h2
      unfold readT
      rw [hcr]
      dsimp only
      split
      · simp only; omega
      · split
        · simp only; omega
        · split <;> (simp only; omega)
    have hs : skp false ((l.drop a).take (p - a)) a = skp false (l.drop a) a := skp_take false _ _ _ (by rw [List.length_drop]; omega) (by omega)
    have hd2 : (l.take p).drop (skp false (l.drop a) a) = (c :: r).take (p - skp false (l.drop a) a) := by rw [List.drop_take, hcr]
    revert h2 h0
    unfold readT
    rw [hd, hs, hd2, hcr]
    generalize skp false (l.drop a) a = s at *
    intro h0 h2
    have hpos : s < p := by
      revert h2 h0
      dsimp only
      split
      · rename_i hl; simp only [spanN, alnum, hl, Bool.true_or, if_true]; omega
      · split
        · rename_i hl; simp only [spanN, hl, if_true]; omega
        · split
          · rename_i t ht
            have hne : ∀ t ∈ signs, 1 ≤ t.length := by decide
            unfold signAt at ht
            have := hne t (List.mem_of_find?_eq_some ht)
            simp only; omega
          · intro h; exact absurd (show (140 : Int) = 0 from h) (by decide)
    obtain ⟨k, hk⟩ : ∃ k, p - s = k + 1 := ⟨p - s - 1, by omega⟩
    have hx : (c :: r).take (p - s) = c :: r.take k := by rw [hk, List.take_succ_cons]
    have hy : c :: r.take k = (c :: r).take (p - s) := hx.symm
    rw [hx]
    dsimp only at h0 h2 ⊢
    split at h2
    · rename_i hl
      simp only at h2
      rw [if_pos hl, if_pos hl, hy, span_take alnum (c :: r) (p - s) (by omega), List.take_take, Nat.min_eq_left (by omega)]
    · rename_i hl
      rw [if_neg hl] at h0
      rw [if_neg hl, if_neg hl]
      split at h2
      · rename_i hdg
        simp only at h2
        rw [if_pos hdg, if_pos hdg, hy, span_take digit (c :: r) (p - s) (by omega), List.take_take, Nat.min_eq_left (by omega)]
      · rename_i hdg
        rw [if_neg hdg] at h0
        rw [if_neg hdg, if_neg hdg, hy]
        split at h2
        · rename_i t ht
          simp only at h2
          have : signAt ((c :: r).take (p - s)) = some t := by
            unfold signAt at ht ⊢
            exact find_take ht (by omega)
          rw [this]
        · rename_i ht
          rw [ht] at h0
          exact absurd (show (140 : Int) = 0 from h0) (by decide)
  · exfalso
    apply h1
    unfold readT
    rw [List.drop_eq_nil_of_le (by omega)]
theorem read_cut {l : Bs} {a p : Nat} (ha : a ≤ p) (hp : p ≤ l.length) (hs : skp false (l.drop a) a = p) : readT (l.take p) a = (endT (l.take p), (l.take p).length) := by
  have hd : (l.take p).drop a = (l.drop a).take (p - a) := by rw [List.drop_take]
  have h2 : skp false ((l.take p).drop a) a = p := by
    rw [hd, skp_take false _ _ _ (by rw [List.length_drop]; omega) (by omega), hs]
  unfold readT
  rw [h2, List.drop_eq_nil_of_le (by rw [List.length_take]; omega)]
  rfl
theorem read_pos {l : Bs} {a : Nat} (ha : a ≤ l.length) : a ≤ (readT l a).2 := by
  obtain ⟨r1, r2⟩ := skp_range false (l.drop a) a
  unfold readT
  split
  · exact ha
  · split
    · simp only; omega
    · split
      · simp only; omega
      · split <;> (simp only; omega)
theorem words_take {l : Bs} {p : Nat} {u : Tk} (hp : p ≤ l.length) (hu : u.at_ = p) : ∀ (A B : List Tk) (n a m : Nat), words l n a = A ++ u :: B → (∀ x ∈ A, x.err = 0 ∧ x.kind ≠ k_end) → a ≤ l.length → a ≤ p ∧ (p < m + a → words (l.take p) m a = A ++ [endT (l.take p)])
  | [], B, n, a, m, h, _, ha => by
    cases n with
    | zero => simp [words] at h
    | succ n =>
      have hut : (readT l a).1 = u := by
        rw [words_succ] at h
        split at h <;> simp only [List.nil_append, List.cons.injEq] at h <;> exact h.1
      have hsk : skp false (l.drop a) a = p := by
        by_cases hk : (readT l a).1.kind = k_end
        · obtain ⟨r1, r2⟩ := skp_range false (l.drop a) a
          rw [List.length_drop] at r2
          have he := (read_place ha).2 hk
          rw [hut] at he
          have : p = l.length := by rw [← hu, he]; rfl
          by_cases hlt : skp false (l.drop a) a < l.length
          · exfalso
            obtain ⟨c, r, hcr⟩ : ∃ c r, l.drop (skp false (l.drop a) a) = c :: r := ⟨_, _, List.drop_eq_getElem_cons hlt⟩
            have hat : (readT l a).1.at_ = skp false (l.drop a) a := by
              unfold readT
              rw [hcr]
              dsimp only
              split
              · unfold named; split <;> rfl
              · split
                · unfold number; split <;> rfl
                · split <;> rfl
            rw [hut, hu] at hat
            omega
          · omega
        · rw [← read_at hk, hut, hu]
      have hap : a ≤ p := by have := (skp_range false (l.drop a) a).1; omega
      refine ⟨hap, fun hm => ?_⟩
      obtain ⟨m, rfl⟩ : ∃ m', m = m' + 1 := ⟨m - 1, by omega⟩
      rw [words_succ, read_cut hap hp hsk, if_pos (.inr rfl)]; rfl
  | t :: A, B, n, a, m, h, hA, ha => by
    cases n with
    | zero => simp [words] at h
    | succ n =>
      have ht := hA t (by simp)
      rw [words_succ] at h
      split at h
      · simp only [List.cons_append, List.cons.injEq] at h
        have := congrArg List.length h.2
        simp at this
      · simp only [List.cons_append, List.cons.injEq] at h
        obtain ⟨h1, h2⟩ := h
        have hadv := read_adv l ha
        have hle := hadv.1
        have hlt : a < (readT l a).2 := hadv.2.1.resolve_left (by rw [h1]; exact ht.2)
        obtain ⟨h3, h4⟩ := words_take hp hu A B n (readT l a).2 (m - 1) h2 (fun x hx => hA x (by simp [hx])) hle
        have hap : a ≤ p := by have := read_pos ha; omega
        have hr := read_take hap hp (by rw [h1]; exact ht.2) (by rw [h1]; exact ht.1) h3
        refine ⟨hap, fun hm => ?_⟩
        obtain ⟨m, rfl⟩ : ∃ m', m = m' + 1 := ⟨m - 1, by omega⟩
        replace h4 := h4 (by omega)
        rw [Nat.add_sub_cancel] at h4
        rw [words_succ, hr, h1, if_neg (by rintro (e | e); exact e ht.1; exact ht.2 e), h4]; rfl
theorem split_first {P : Tk → Prop} [DecidablePred P] : ∀ (L : List Tk), (∃ a ∈ L, P a) → ∃ A u B, L = A ++ u :: B ∧ P u ∧ ∀ a ∈ A, ¬ P a
  | [], h => by obtain ⟨a, ha, _⟩ := h; simp at ha
  | x :: L, h => by
    by_cases hx : P x
    · exact ⟨[], x, L, rfl, hx, fun a ha => by simp at ha⟩
    · obtain ⟨A, u, B, h1, h2, h3⟩ := split_first L (by
        obtain ⟨a, ha, hp⟩ := h
        rcases List.mem_cons.1 ha with rfl | ha
        · exact absurd hp hx
        · exact ⟨a, ha, hp⟩)
      refine ⟨x :: A, u, B, by rw [h1]; rfl, h2, fun a ha => ?_⟩
      rcases List.mem_cons.1 ha with rfl | ha
      · exact hx
      · exact h3 a ha
theorem place_law {l : Bs} {p : Nat} (h : parseP l (fuelOf l) = .err 141 p) : p ≤ l.length ∧ ((∃ a ts, parseP (l.take p) (fuelOf (l.take p)) = .ok a ts) ∨ parseP (l.take p) (fuelOf (l.take p)) = .err 141 p) := by
  have hr := (parse_of_run l).2.2 _ _ h
  obtain ⟨A0, t, e1, e2, e3, _⟩ := words_nl (l := l) (m := []) (l.length + 1) 0 (Nat.zero_le _) (by omega)
  have hpl := words_place (l := l) (l.length + 1) 0 (Nat.zero_le _)
  obtain ⟨w0, wr, hw⟩ : ∃ u r, words l (l.length + 1) 0 = u :: r := List.exists_cons_of_ne_nil words_ne
  have hex : ∃ a ∈ words l (l.length + 1) 0, a.at_ = p := by
    unfold runT start at hr
    rw [hw] at hr ⊢
    simp only [stepP] at hr
    split at hr
    · simp only [Res.bind, Res.err.injEq] at hr; exact ⟨w0, by simp, hr.2⟩
    · split at hr
      · simp only [Res.bind, Res.err.injEq] at hr; exact ⟨w0, by simp, hr.2⟩
      · exact run_place (w0 :: wr) S0 141 p (by simp) hr
  obtain ⟨A, u, B, hsp, hu, hA⟩ := split_first (P := fun a => a.at_ = p) _ hex
  have hple : p ≤ l.length := by
    obtain ⟨a, ha, hap⟩ := hex
    have := hpl a ha
    by_cases hk : a.kind = k_end
    · have := this.2 hk
      rw [this] at hap
      have : l.length = p := hap
      omega
    · have := this.1 hk; omega
  refine ⟨hple, ?_⟩
  have hAf : ∀ x ∈ A, x.err = 0 ∧ x.kind ≠ k_end := fun x hx => by
    refine e2 x ?_
    have hl : A0 ++ [t] = A ++ u :: B := by rw [← e1, hsp]
    have : A <+: A0 := by
      have h1 : A <+: A0 ++ [t] := by rw [hl]; exact List.prefix_append _ _
      have h2 : A0 <+: A0 ++ [t] := List.prefix_append _ _
      refine List.prefix_of_prefix_length_le h1 h2 ?_
      have := congrArg List.length hl
      simp at this
      omega
    exact this.subset hx
  have hlen : (l.take p).length = p := by rw [List.length_take]; omega
  have hwt : words (l.take p) ((l.take p).length + 1) 0 = A ++ [endT (l.take p)] := (words_take hple hu A B (l.length + 1) 0 ((l.take p).length + 1) hsp hAf (Nat.zero_le _)).2 (by omega)
  have hres : ∀ S, Inv S → run S [endT (l.take p)] = .err 141 p ∨ ∃ ts, run S [endT (l.take p)] = .ok () ts := fun S hS => by
    rw [run_end]
    rcases go_end S hS with hg | hg
    · rw [hg]; exact .inr ⟨_, rfl⟩
    · rw [hg]; left; show Res.err 141 (l.take p).length = _; rw [hlen]
  have key : runT (l.take p) = .err 141 p ∨ ∃ ts, runT (l.take p) = .ok () ts := by
    cases A with
    | nil =>
      unfold runT start
      rw [hwt, List.nil_append, first_fine (end_fine _)]
      exact hres S0 inv_S0
    | cons a A =>
      have ha := hAf a (by simp)
      have haf : Fine a := by
        refine ⟨ha.1, fun hl => ?_⟩
        unfold runT start at hr
        rw [hsp, List.cons_append] at hr
        simp only [stepP] at hr
        rw [if_neg (fun e => e ha.1), if_pos ⟨hl.1, hl.2, trivial⟩] at hr
        simp only [Res.bind, Res.err.injEq] at hr
        exact absurd hr.1 (by decide)
      have hr1 : runT l = run S0 (a :: A ++ u :: B) := by
        unfold runT start
        rw [hsp, List.cons_append, first_fine haf]; rfl
      have hr2 : runT (l.take p) = run S0 (a :: A ++ [endT (l.take p)]) := by
        unfold runT start
        rw [hwt, List.cons_append, first_fine haf]; rfl
      rcases run_split (a :: A) S0 inv_S0 hAf with ⟨e', q, ⟨b, hb, hq⟩, hB⟩ | ⟨S', h1, h2⟩
      · rw [hr1, hB] at hr
        simp only [Res.err.injEq] at hr
        exact absurd (hq.trans hr.2) (hA b hb)
      · rw [hr2, h2 _ _ (end_fine _)]
        exact hres S' h1
  rcases key with hk | ⟨ts, hk⟩
  · exact .inr ((parse_of_run _).1 _ _ hk)
  · exact .inl ((parse_of_run _).2.1 _ hk)
end Go.Tx
namespace Go.Sh
section
variable {P : Program} {T : Tab} {w : World} {k : Value → World → Prop} {Y : List PanicEntry → World → Prop} {t : TypeId} {ti : TI} {l : List UInt8}
theorem run_strtake (hT : TabOk P T) (ht : getT T.ts t = some ti) (hd : ti.desc = .string) {kh : IntKind} {j : Nat} (hj : j ≤ l.length) (w : World) : (Instr.sliceAt t (.string (bs l)) none (some (.int kh (j : Int))) none).run P w = .ok (.string (bs (l.take j))) w := by
  have hs := bs_size l
  have hbd : (Instr.sliceBounds false (bs l).size (bs l).size none (some (.int kh (j : Int))) none).run P w = .ok (0, j, (bs l).size) w := by
    simp [Instr.sliceBounds, run_bound (show j ≤ (bs l).size by omega)]
  have := bs_cut l 0 j
  simp [Instr.sliceAt, Instr.slice, run_und hT.1 ht, hd, hbd, this]
theorem Sm.strtake (hT : TabOk P T) {kh : IntKind} {b : Int} {j : Nat} (hj : j ≤ l.length) (hk : k (.string (bs (l.take j))) w) (ht : getT T.ts t = some ti := by rfl) (hd : ti.desc = .string := by rfl) (hb : b = (j : Int) := by first | with_reducible rfl | assumption) : Sm P (Instr.sliceAt t (.string (bs l)) none (some (.int kh b)) none) w k Y := by
  subst hb
  exact ⟨by rw [run_strtake hT ht hd hj]; exact hk⟩
end
end Go.Sh
namespace Go.Proofs.YtfnjodpehomgfaaGreatDoor
open Go Go.Sh Go.Tx
attribute [local irreducible] Blk Ext RdS
theorem pr_some {l : Bs} {a : List Fnc} {ts : List Tk} (h : PR l = .ok a ts) : a ≠ [] := by
  have hp : parseP l (fuelOf l) = .ok a ts := by
    unfold PR at h
    split at h
    · cases h
    · exact h
  have := (parse_good hp).1
  unfold treeB at this
  simp only [Bool.and_eq_true, decide_eq_true_eq] at this
  exact this.1
theorem place_pr {l : Bs} {p : Nat} (h : PR l = .err 141 p) : p ≤ l.length ∧ ((∃ a ts, PR (l.take p) = .ok a ts) ∨ PR (l.take p) = .err 141 p) := by
  have hp : l.length ≤ 16384 ∧ parseP l (fuelOf l) = .err 141 p := by
    unfold PR at h
    split at h
    · simp only [Res.err.injEq] at h; exact absurd h.1 (by decide)
    · exact ⟨by omega, h⟩
  obtain ⟨h1, h2⟩ := place_law hp.2
  refine ⟨h1, ?_⟩
  rw [pr_short (show (l.take p).length ≤ 16384 by rw [List.length_take]; omega)]
  exact h2
theorem place_tail {l : Bs} {p : Nat} {tl : Bs} {e : Int} (h : PR l = .err 141 p) (h8 : p ≤ 8192) (ht : TailIs (l.take p) tl e) : e = 0 ∧ tl.length ≤ 8192 ∧ ∃ a ts, PR (l.take p ++ tl) = .ok a ts := by
  obtain ⟨h1, h2⟩ := place_pr h
  have hl : (l.take p).length = p := by rw [List.length_take]; omega
  rcases ht with ⟨g1, _⟩ | ⟨g1, g2, rfl, g4⟩ | ⟨g1, g2, g3, g4, g5, g6, g7⟩
  · omega
  · rcases h2 with ⟨a, ts, h2⟩ | h2
    · refine ⟨?_, by simp, a, ts, by rw [List.append_nil]; exact h2⟩
      rw [g4, h2]; rfl
    · exact absurd ⟨by rw [h2]; rfl, by rw [h2, hl]; rfl⟩ g2
  · exact ⟨g4, g5, g7⟩
set_option maxHeartbeats 4000000 in
theorem textPlace_c (l : Bs) (w : World) (hG : Rp w) (hC : RdC w) :
    Cl Tryz.prog 10 #[.string (bs l)] w (fun u w' => u = .bool true ∧ Ext w w') (fun _ _ => False) := by
  refine calls_ex (args := [.string (bs l)]) T.ok Tryz.func10 rfl rfl rfl rfl ?_
  have H := Hp.begin nw w
  have hsl := bs_size l
  repeat' ((conv => whnf); first | refine ztT ?_ | (refine ztB ?_ ?_ <;> intro _ <;> try (exfalso; omega)) | (refine ztW ?_; clear H; intro _ _ H _) | fail)
  ((conv => whnf); refine Cl.mk (Parse_c l _ (hG.rg.ext H.e)) ?_)
  intro v2 w2 q2
  obtain ⟨m2, A2, c2, e2, rfl, l2, H'⟩ := okq q2
  clear q2
  replace H := H.fr0L H' (fun c hc => by simp only [List.mem_cons, List.not_mem_nil, or_false] at hc; rcases hc with rfl | rfl <;> exact .inl rfl)
  clear H'
  obtain ⟨E, hE⟩ : ∃ E, E = errOf (PR l) := ⟨_, rfl⟩
  obtain ⟨q, hP⟩ : ∃ P, P = plcOf (PR l) := ⟨_, rfl⟩
  rw [← hE, ← hP]
  repeat' ((conv => whnf); first | refine ztT ?_ | (refine ztB ?_ ?_ <;> intro _ <;> try (exfalso; omega)) | (refine ztW ?_; clear H; intro _ _ H _) | fail)
  ((conv => whnf); refine Al.hp H ?_; clear H; intro p1 _ H _)
  ((conv => whnf); refine Al.hp H ?_; clear H; intro p2 _ H _)
  by_cases h141 : E = 141
  rotate_left
  · repeat' (first | ((conv => whnf); first | refine ztT ?_ | (refine ztB ?_ ?_ <;> intro _ <;> try (exfalso; omega)) | (refine ztW ?_; clear H; intro _ _ H _) | fail) | (((conv => whnf); refine Cl.mk (head_c _ (hG.ext H.e)) ?_); rintro _ _ ⟨rfl, hx⟩; replace H := H.ext hx; clear hx))
    all_goals first | exact ⟨rfl, H.e⟩ | (exfalso; omega) | skip
  subst h141
  have hR : PR l = .err 141 q := pr_err hE.symm hP.symm
  obtain ⟨hq, _⟩ := place_pr hR
  by_cases h8 : 8192 < q
  · repeat' (first | ((conv => whnf); first | refine ztT ?_ | (refine ztB ?_ ?_ <;> intro _ <;> try (exfalso; omega)) | (refine ztW ?_; clear H; intro _ _ H _) | fail) | (((conv => whnf); refine Cl.mk (head_c _ (hG.ext H.e)) ?_); rintro _ _ ⟨rfl, hx⟩; replace H := H.ext hx; clear hx))
    all_goals first | exact ⟨rfl, H.e⟩ | (exfalso; omega) | skip
  repeat' ((conv => whnf); first | refine ztT ?_ | (refine ztB ?_ ?_ <;> intro _ <;> try (exfalso; omega)) | (refine ztW ?_; clear H; intro _ _ H _) | fail)
  all_goals first | (exfalso; omega) | skip
  refine Sm.strtake T.ok hq ?_
  repeat' ((conv => whnf); first | refine ztT ?_ | (refine ztB ?_ ?_ <;> intro _ <;> try (exfalso; omega)) | (refine ztW ?_; clear H; intro _ _ H _) | fail)
  ((conv => whnf); refine Cl.mk (tail_c (l.take q) _ (hG.rg.ext H.e) (RdS.from H.e hC)) ?_)
  rintro _ w3 ⟨tl, e, hTl, rfl, ex⟩
  replace H := H.ext ex
  clear ex
  obtain ⟨rfl, htl, a4, ts4, hok⟩ := place_tail hR (by omega) hTl
  have hst := bs_size tl
  repeat' ((conv => whnf); first | refine ztT ?_ | (refine ztB ?_ ?_ <;> intro _ <;> try (exfalso; omega)) | (refine ztW ?_; clear H; intro _ _ H _) | fail)
  all_goals first | (exfalso; omega) | skip
  refine Sm.strtake T.ok hq ?_
  repeat' ((conv => whnf); first | refine ztT ?_ | (refine ztB ?_ ?_ <;> intro _ <;> try (exfalso; omega)) | (refine ztW ?_; clear H; intro _ _ H _) | fail)
  refine Sm.cat (by rw [List.length_take]; omega) ?_
  repeat' ((conv => whnf); first | refine ztT ?_ | (refine ztB ?_ ?_ <;> intro _ <;> try (exfalso; omega)) | (refine ztW ?_; clear H; intro _ _ H _) | fail)
  ((conv => whnf); refine Cl.mk (Parse_c (l.take q ++ tl) _ (hG.rg.ext H.e)) ?_)
  rintro _ w4 (⟨m, ts, A, c, hp, rfl, hlm, H'⟩ | ⟨e, q', hp, rfl, ex⟩)
  rotate_left
  · rw [hok] at hp; cases hp
  replace H := H.fr0L H' (fun c hc => by simp only [List.mem_cons, List.not_mem_nil, or_false] at hc; rcases hc with rfl | rfl <;> exact .inl rfl)
  clear H'
  have hpos : 0 < m.length := by
    have := pr_some hp
    cases m with
    | nil => exact absurd rfl this
    | cons x r => simp
  repeat' ((conv => whnf); first | refine ztT ?_ | (refine ztB ?_ ?_ <;> intro _ <;> try (exfalso; omega)) | (refine ztW ?_; clear H; intro _ _ H _) | fail)
  ((conv => whnf); refine Al.hp H ?_; clear H; intro p3 _ H _)
  ((conv => whnf); refine Al.hp H ?_; clear H; intro p4 _ H _)
  repeat' ((conv => whnf); first | refine ztT ?_ | (refine ztB ?_ ?_ <;> intro _ <;> try (exfalso; omega)) | (refine ztW ?_; clear H; intro _ _ H _) | fail)
  all_goals first | exact ⟨rfl, H.e⟩ | (exfalso; omega) | skip
  refine ⟨?_, H.e⟩
  show Value.bool (decide ((m.length : Int) > 0)) = Value.bool true
  rw [decide_eq_true (by omega)]
end Go.Proofs.YtfnjodpehomgfaaGreatDoor
namespace Go.Proofs.YtfnjodpehomgfaaGreatDoor
open Go Go.Sh Go.Tx
attribute [local irreducible] Blk Ext RdS
theorem kids : Kids Tryz.prog (· < Tryz.prog.types.size) := kids_rows (by kernel_rfl) (by kernel_rfl)
theorem full : ∀ t e, t < Tryz.prog.types.size → Tryz.prog.underlying t = some (.slice e) → 0 < Tryz.prog.cellsOf e := slices_full_of _ (by kernel_rfl)
theorem own : ownKnob Tryz.prog.godebug = none := by kernel_rfl
theorem u_bool : Tryz.prog.underlying 4 = some .bool := (T.ok.1.get (t := 4) (i := T.t4) rfl).1
set_option maxRecDepth 100000 in
theorem arg_string {H : Type} {enc : TypeId × Value → H} {w : World} {sp : Nat → Bool} {held : Bool} {v : Value} {d : DataW H} {p : List MemPlace} {r : Go.Reach} {b0 : Nat} (hv : Value.okWide Tryz.prog w r b0 9 v) (h : DataW.Trod enc Tryz.prog w 0 sp held 9 v d p) :
    ∃ l : Bs, v = .string (bs l) ∧ d = .lit (.string l) ∧ l.length ≤ maxLen := by
  obtain ⟨s, rfl, rfl, _, hs⟩ := ChangeMaps.open_string (P := Tryz.prog) (t := 9) u_string hv h
  exact ⟨s.data.toList, by rw [← bs_of], rfl, Nat.le_trans (Nat.le_of_eq Array.length_toList) hs⟩
def litV : DataW Unit → List Value
  | .lit (.int k n) => [.int k n]
  | .lit (.string s) => [.string (bs s)]
  | _ => []
def litVs : DataW Unit → List Value
  | .agg l => l.flatMap litV
  | _ => []
def setG (cs : List Value) : Obj → Obj
  | .cells _ t frozen => .cells cs.toArray t frozen
  | o => o
noncomputable def laidWorld (os : Os) : World :=
  let w0 := World.holding Tryz.prog os ⟨#[], #[], []⟩
  let n := w0.heap.size
  { w0 with heap := ((((((((w0.heap.modify 8 (setG (litVs Rows.laid_math_bits_deBruijn32tab))).modify 9 (setG (litVs Rows.laid_math_bits_deBruijn64tab))).modify 7 (setG (litVs Rows.laid_internal_strconv_uint64pow10))).modify 4 (setG (litVs Rows.laid_plunder_ops_names))).modify 3 (setG (litVs Rows.laid_plunder_text_keywords))).modify 2 (setG (litVs Rows.laid_plunder_text_signs))).modify 0 (setG [.iface 137 (.agg #[.pointer (some ⟨10, 58, none⟩)])])).modify 6 (setG ((List.range 8).map fun i => .slice (some ⟨n + i, 0, none⟩) ((levels.map List.length).getD i 0) ((levels.map List.length).getD i 0)))) ++ (levels.map fun l => Obj.cells (l.map fun b => Value.string (bs b)).toArray 9 (0, 0)).toArray }
end Go.Proofs.YtfnjodpehomgfaaGreatDoor
namespace Go.Proofs.YtfnjodpehomgfaaGreatDoor
open Go Go.Sh Go.Tx
attribute [local irreducible] Blk Ext RdS
abbrev laidDataC : List (String × DataW Unit) := [("math/bits.deBruijn32tab", Rows.laid_math_bits_deBruijn32tab), ("math/bits.deBruijn64tab", Rows.laid_math_bits_deBruijn64tab), ("internal/strconv.uint64pow10", Rows.laid_internal_strconv_uint64pow10), ("plunder/ops.names", Rows.laid_plunder_ops_names), ("plunder/text.levels", Rows.laid_plunder_text_levels), ("plunder/text.closers", Rows.laid_plunder_text_closers), ("plunder/text.keywords", Rows.laid_plunder_text_keywords), ("plunder/text.signs", Rows.laid_plunder_text_signs)]
theorem rg_laidC {W : World} (h : laidMet Tryz.prog laidDataC W ∧ handlesMet Tryz.prog [("errors.errorType", Rows.laid_errors_errorType)] W) : Rg W ∧ RdC W := by
  have h1 := laidMet.tail (laidMet.tail h.1)
  have hp : Pow W := Lib.tabIs_of_head (zs := Lib.pow10Tab) (g := 7) (t := 198) (e := 170) (n := 20) (by kernel_rfl) (by kernel_rfl) (by kernel_rfl) (by kernel_rfl) (by kernel_rfl) (by kernel_rfl) h1
  have h2 := laidMet.tail h1
  have hn := tab_str (l := opNames) (g := 4) (n := 16) (by kernel_rfl) rfl (by kernel_rfl) rfl (by kernel_rfl) h2
  have h3 := laidMet.tail h2
  have hl := tab_lvl (ls := levels) (g := 6) (n := 8) (by kernel_rfl) rfl (by kernel_rfl) rfl (by kernel_rfl) h3
  have h4 := laidMet.tail h3
  have hc := tab_str (l := CL) (g := 1) (n := 10) (by kernel_rfl) rfl (by kernel_rfl) rfl (by kernel_rfl) h4
  have h4 := laidMet.tail h4
  have hk := tab_str (l := keywords) (g := 3) (n := 15) (by kernel_rfl) rfl (by kernel_rfl) rfl (by kernel_rfl) h4
  have h5 := laidMet.tail h4
  have hs := tab_str (l := signs) (g := 2) (n := 24) (by kernel_rfl) rfl (by kernel_rfl) rfl (by kernel_rfl) h5
  exact ⟨rg_of hk hs hn hl hp (eg_of h.2), hc⟩
noncomputable def laidWorldC (os : Os) : World := { laidWorld os with heap := (laidWorld os).heap.modify 1 (setG (litVs Rows.laid_plunder_text_closers)) }
end Go.Proofs.YtfnjodpehomgfaaGreatDoor
namespace Go.Proofs.YtfnjodpehomgfaaGreatDoor
open Go Go.Sh Go.Tx
attribute [local irreducible] Blk Ext RdS
theorem pow_laidC {W : World} (h : laidMet Tryz.prog laidDataC W ∧ handlesMet Tryz.prog [("errors.errorType", Rows.laid_errors_errorType)] W) : Pow W :=
  Lib.tabIs_of_head (zs := Lib.pow10Tab) (g := 7) (t := 198) (e := 170) (n := 20) (by kernel_rfl) (by kernel_rfl) (by kernel_rfl) (by kernel_rfl) (by kernel_rfl) (by kernel_rfl) (laidMet.tail (laidMet.tail h.1))
end Go.Proofs.YtfnjodpehomgfaaGreatDoor
