/- own work: PgD, PgM, ShH, PgE, PgF, ShM, ShN, ShO, PgG -/
import Derived.Maps.RangeRun
import Derived.WideKeyRuns
import Derived.Test.YtbbadmlekagloaaDoorMD1
namespace Go.Proofs.YtbbadmlekagloaaDoor
open Go Go.Sh
attribute [local irreducible] Blk Ext RdS
def ints (n : Int) : List Value := [.int .i64 n]
def afterS (c : Ins) (slot s : Int) : Int := if c.kd = 5 ∧ c.a = slot then 2 else if c.kd = 6 ∧ s = 2 then 4 else s
theorem After_c (c : Ins) (slot s : Int) (w : World) :
    Cl Tryd.prog 58 #[c.v, .int .i64 slot, .int .i64 s] w (fun v w' => v = .int .i64 (afterS c slot s) ∧ Ext w w') (fun _ _ => False) := by
  refine calls_ex (args := [c.v, .int .i64 slot, .int .i64 s]) T.ok Tryd.func58 rfl rfl rfl rfl ?_
  repeat' (first | (show Gd _ _ _; first | with_reducible refine Gd.t ?_ | with_reducible refine Gd.f ?_ | with_reducible refine Gd.dec (fun _ => ?_) (fun _ => ?_) | with_reducible refine Gd.beq (fun _ => ?_) (fun _ => ?_) | with_reducible refine Gd.bne (fun _ => ?_) (fun _ => ?_) | with_reducible refine Gd.not ?_ | refine Gd.t ?_ | refine Gd.f ?_ | with_reducible refine Gd.var (fun _ => ?_) (fun _ => ?_)) | (show Sq _ _ _; refine Sq.mk ?_) | (show Ld1 _ _ _; first | (apply Ld1.blk; (focus ((repeat (first | assumption | (apply Blk.from; assumption))); done)); rfl) | (apply Ld1.rsF; (focus ((repeat (first | assumption | (apply RdS.from; assumption))); done)); assumption; rfl) | (apply Ld1.rs; (focus ((repeat (first | assumption | (apply RdS.from; assumption))); done)); assumption; rfl)) | (show Ld _ _ _ _; first | (apply Ld.blk; (focus ((repeat (first | assumption | (apply Blk.from; assumption))); done)); rfl) | (apply Ld.rs; (focus ((repeat (first | assumption | (apply RdS.from; assumption))); done)); assumption)) | (show Ix _ _ _ _ _; first | (apply Ix.rs; (focus ((repeat (first | assumption | (apply RdS.from; assumption))); done)); (first | with_reducible rfl | assumption); (first | assumption | omega)) | (apply Ix.arr; (focus ((repeat (first | assumption | (apply RdS.from; assumption))); done)); (first | assumption | (simp; done)); (first | with_reducible rfl | assumption); (first | assumption | omega))) | (show Al _ _ _ _; refine Al.mk (fun _ _ _ _ _ _ => ?_)) | (show St _ _ _ _; apply St.new; assumption; assumption; assumption; rfl; rfl; intro _ _ _ _))
  all_goals (refine ⟨i_eq ?_, by (repeat (first | exact Ext.refl _ | assumption | (apply Ext.from; assumption)))⟩; simp_all [afterS])
theorem behind_c (c : Ins) (slot s : Int) (w : World) :
    Cl Tryd.prog 79 #[c.v, .int .i64 slot, .int .i64 s] w (fun v w' => v = .int .i64 (afterS c slot s) ∧ Ext w w') (fun _ _ => False) := by
  refine calls_ex (args := [c.v, .int .i64 slot, .int .i64 s]) T.ok Tryd.func79 rfl rfl rfl rfl ?_
  repeat' (first | (show Gd _ _ _; first | with_reducible refine Gd.t ?_ | with_reducible refine Gd.f ?_ | with_reducible refine Gd.dec (fun _ => ?_) (fun _ => ?_) | with_reducible refine Gd.beq (fun _ => ?_) (fun _ => ?_) | with_reducible refine Gd.bne (fun _ => ?_) (fun _ => ?_) | with_reducible refine Gd.not ?_ | refine Gd.t ?_ | refine Gd.f ?_ | with_reducible refine Gd.var (fun _ => ?_) (fun _ => ?_)) | (show Sq _ _ _; refine Sq.mk ?_) | (show Ld1 _ _ _; first | (apply Ld1.blk; (focus ((repeat (first | assumption | (apply Blk.from; assumption))); done)); rfl) | (apply Ld1.rsF; (focus ((repeat (first | assumption | (apply RdS.from; assumption))); done)); assumption; rfl) | (apply Ld1.rs; (focus ((repeat (first | assumption | (apply RdS.from; assumption))); done)); assumption; rfl)) | (show Ld _ _ _ _; first | (apply Ld.blk; (focus ((repeat (first | assumption | (apply Blk.from; assumption))); done)); rfl) | (apply Ld.rs; (focus ((repeat (first | assumption | (apply RdS.from; assumption))); done)); assumption)) | (show Ix _ _ _ _ _; first | (apply Ix.rs; (focus ((repeat (first | assumption | (apply RdS.from; assumption))); done)); (first | with_reducible rfl | assumption); (first | assumption | omega)) | (apply Ix.arr; (focus ((repeat (first | assumption | (apply RdS.from; assumption))); done)); (first | assumption | (simp; done)); (first | with_reducible rfl | assumption); (first | assumption | omega))) | (show Al _ _ _ _; refine Al.mk (fun _ _ _ _ _ _ => ?_)) | (show St _ _ _ _; apply St.new; assumption; assumption; assumption; rfl; rfl; intro _ _ _ _))
  all_goals (refine ⟨i_eq ?_, by (repeat (first | exact Ext.refl _ | assumption | (apply Ext.from; assumption)))⟩; simp_all [afterS])
def nextsS (i : Nat) (c : Ins) : List Int := if c.kd = 3 then [c.a] else if c.kd = 9 then [] else if c.kd = 4 then [(i : Int) + 1, c.b] else [(i : Int) + 1]
def IsInts (l : List Int) (w : World) (v : Value) (w' : World) : Prop := ∃ A, v = .slice A l.length l.length ∧ RdS ints 1 w' A l ∧ Ext w w' ∧ Fresh w A
theorem flat1 (l : List Int) : (l.flatMap ints).length = l.length := by
  induction l with
  | nil => rfl
  | cons x r ih => simp [ints, List.flatMap_cons] at ih ⊢; omega
theorem own_of_ints {p B : Nat} {l : List Int} {w : World} {t : Nat} (h : Blk w p t (l.flatMap ints)) (hB : B ≤ p) (hl : l.length ≤ 140737488355328) : Own ints 1 t w B (some ⟨p, 0, none⟩) l.length l :=
  own_of_blk (l := l) (enc := ints) (sz := 1) (e := t) (c := l.length) h hB (fun _ _ => rfl) (by rw [flat1]; omega) (Nat.le_refl _) (by simp only [maxLen]; omega) (by rw [flat1]; omega) (List.take_of_length_le (by rw [flat1]; omega))
theorem rd_of_blk {p : Nat} {l : List Int} {w : World} {t : Nat} (h : Blk w p t (l.flatMap ints)) (hl : l.length ≤ 140737488355328) : RdS ints 1 w (some ⟨p, 0, none⟩) l :=
  Own.rd (own_of_ints h (Nat.zero_le _) hl)
theorem fresh_some {w w1 : World} {p : Nat} (e : Ext w w1) (hp : w1.heap.size = p) : Fresh w (some ⟨p, 0, none⟩) := fun b hb => by simp [obk] at hb; have := e.size; omega
theorem fresh_none {w : World} : Fresh w none := fun b hb => by simp [obk] at hb
theorem Nexts_c (f : Fn) (A : Option Addr) (c : Nat) (i : Nat) (x : Ins) (w : World) (hA : RdC w A f.code) (hx : f.code[i]? = some x) (hl : f.code.length ≤ 512) :
    Cl Tryd.prog 57 #[f.v A c, .int .i64 (i : Int)] w (IsInts (nextsS i x) w) (fun _ _ => False) := by
  have hlt := (List.getElem?_eq_some_iff.1 hx).1
  have hw1 : IntKind.i64.wrap ((i : Int) + 1) = (i : Int) + 1 := w64 rfl (by omega) (by omega)
  refine calls_ex (args := [f.v A c, .int .i64 (i : Int)]) T.ok Tryd.func57 rfl rfl rfl rfl ?_
  repeat' (first | (show Gd _ _ _; first | with_reducible refine Gd.t ?_ | with_reducible refine Gd.f ?_ | with_reducible refine Gd.dec (fun _ => ?_) (fun _ => ?_) | with_reducible refine Gd.beq (fun _ => ?_) (fun _ => ?_) | with_reducible refine Gd.bne (fun _ => ?_) (fun _ => ?_) | with_reducible refine Gd.not ?_ | refine Gd.t ?_ | refine Gd.f ?_ | with_reducible refine Gd.var (fun _ => ?_) (fun _ => ?_)) | (show Sq _ _ _; refine Sq.mk ?_) | (show Ld1 _ _ _; first | (apply Ld1.blk; (focus ((repeat (first | assumption | (apply Blk.from; assumption))); done)); rfl) | (apply Ld1.rsF; (focus ((repeat (first | assumption | (apply RdS.from; assumption))); done)); assumption; rfl) | (apply Ld1.rs; (focus ((repeat (first | assumption | (apply RdS.from; assumption))); done)); assumption; rfl)) | (show Ld _ _ _ _; first | (apply Ld.blk; (focus ((repeat (first | assumption | (apply Blk.from; assumption))); done)); rfl) | (apply Ld.rs; (focus ((repeat (first | assumption | (apply RdS.from; assumption))); done)); assumption)) | (show Ix _ _ _ _ _; first | (apply Ix.rs; (focus ((repeat (first | assumption | (apply RdS.from; assumption))); done)); (first | with_reducible rfl | assumption); (first | assumption | omega)) | (apply Ix.arr; (focus ((repeat (first | assumption | (apply RdS.from; assumption))); done)); (first | assumption | (simp; done)); (first | with_reducible rfl | assumption); (first | assumption | omega))) | (show Al _ _ _ _; refine Al.mk (fun _ _ _ _ _ _ => ?_)) | (show St _ _ _ _; apply St.new; assumption; assumption; assumption; rfl; rfl; intro _ _ _ _))
  · refine Sm.lit T.ok (cs := [.int .i64 x.a]) rfl rfl rfl rfl rfl rfl rfl (fun p _ hp hb _ _ => ?_)
    refine ⟨some ⟨p, 0, none⟩, ?_, ?_, by (repeat (first | exact Ext.refl _ | assumption | (apply Ext.from; assumption))), fresh_some (by (repeat (first | exact Ext.refl _ | assumption | (apply Ext.from; assumption)))) hp⟩
    · simp_all [nextsS]; rfl
    · have e : nextsS i x = [x.a] := by simp_all [nextsS]
      rw [e]; exact rd_of_blk hb (by simp)
  · refine ⟨none, ?_, ?_, by (repeat (first | exact Ext.refl _ | assumption | (apply Ext.from; assumption))), fresh_none⟩
    · simp_all [nextsS]; rfl
    · have e : nextsS i x = [] := by simp_all [nextsS]
      rw [e]; exact RdS.nil
  · refine Sm.lit T.ok (cs := [.int .i64 ((i : Int) + 1), .int .i64 x.b]) rfl rfl rfl rfl (by rw [hw1]; rfl) rfl rfl (fun p _ hp hb _ _ => ?_)
    refine ⟨some ⟨p, 0, none⟩, ?_, ?_, by (repeat (first | exact Ext.refl _ | assumption | (apply Ext.from; assumption))), fresh_some (by (repeat (first | exact Ext.refl _ | assumption | (apply Ext.from; assumption)))) hp⟩
    · simp_all [nextsS]; rfl
    · have e : nextsS i x = [(i : Int) + 1, x.b] := by simp_all [nextsS]
      rw [e]; exact rd_of_blk hb (by simp)
  · refine Sm.lit T.ok (cs := [.int .i64 ((i : Int) + 1)]) rfl rfl rfl rfl (by rw [hw1]; rfl) rfl rfl (fun p _ hp hb _ _ => ?_)
    refine ⟨some ⟨p, 0, none⟩, ?_, ?_, by (repeat (first | exact Ext.refl _ | assumption | (apply Ext.from; assumption))), fresh_some (by (repeat (first | exact Ext.refl _ | assumption | (apply Ext.from; assumption)))) hp⟩
    · simp_all [nextsS]; rfl
    · have e : nextsS i x = [(i : Int) + 1] := by simp_all [nextsS]
      rw [e]; exact rd_of_blk hb (by simp)
end Go.Proofs.YtbbadmlekagloaaDoor
namespace Go.Proofs.YtbbadmlekagloaaDoor
abbrev Pt := Nat × Int
def succs (f : Fn) (slot : Int) (x : Pt) : List Pt := match f.code[x.1]? with | some c => (nextsS x.1 c).map fun n => (n.toNat, afterS c slot x.2) | none => []
inductive Reach (f : Fn) (slot : Int) : Pt → Prop where
  | start : Reach f slot (0, 1)
  | step {x y : Pt} : Reach f slot x → y ∈ succs f slot x → Reach f slot y
def okS (s : Int) : Prop := s = 1 ∨ s = 2 ∨ s = 4
theorem okS_after {c : Ins} {slot s : Int} (h : okS s) : okS (afterS c slot s) := by
  unfold afterS; split
  · exact .inr (.inl rfl)
  · split
    · exact .inr (.inr rfl)
    · exact h
theorem next_range {f : Fn} (h : soundB f = true) {i : Nat} {c : Ins} (hc : f.code[i]? = some c) : ∀ n ∈ nextsS i c, 0 ≤ n ∧ n < f.code.length := by
  simp only [soundB, Bool.and_eq_true, List.all_eq_true] at h
  obtain ⟨⟨h1, h2⟩, h3⟩ := h
  have hi := (List.getElem?_eq_some_iff.1 hc).1
  have ha := h2 c (List.mem_of_getElem? hc)
  have hl := shaped_len h1
  obtain ⟨x, hx, he⟩ := last_get hl.1
  rw [h3] at he
  have hlast : i + 1 = f.code.length → c = x := fun e => by
    rw [show f.code.length - 1 = i by omega, hc] at hx
    exact Option.some.inj hx
  intro n hn
  unfold nextsS at hn
  unfold aloneB belowB at ha
  by_cases k3 : c.kd = 3
  · rw [if_pos k3] at hn; simp at hn; subst hn; rw [k3] at ha; simpa using ha
  · rw [if_neg k3] at hn
    by_cases k9 : c.kd = 9
    · rw [if_pos k9] at hn; simp at hn
    · rw [if_neg k9] at hn
      have hlt : i + 1 < f.code.length := by
        rcases Nat.lt_or_ge (i + 1) f.code.length with h' | h'
        · exact h'
        · have := hlast (by omega); subst this; simp [k3, k9] at he
      by_cases k4 : c.kd = 4
      · rw [if_pos k4] at hn; simp at hn
        rw [k4] at ha; simp at ha
        rcases hn with rfl | rfl <;> omega
      · rw [if_neg k4] at hn; simp at hn; subst hn; omega
theorem pigeon : ∀ (N : Nat) (l : List Nat), l.Nodup → (∀ x ∈ l, x < N) → l.length ≤ N
  | 0, l, _, h => by
    cases l with
    | nil => simp
    | cons x r => exact absurd (h x (by simp)) (by omega)
  | N + 1, l, hn, h => by
    by_cases hm : N ∈ l
    · have h1 := pigeon N (l.erase N) (hn.erase N) (fun x hx => by
        have h2 := h x (List.mem_of_mem_erase hx)
        have : x ≠ N := fun e => by subst e; exact absurd hx (hn.not_mem_erase)
        omega)
      rw [List.length_erase_of_mem hm] at h1
      omega
    · have := pigeon N l hn (fun x hx => by
        have h2 := h x hx
        have : x ≠ N := fun e => by subst e; exact hm hx
        omega)
      omega
def code3 (x : Pt) : Nat := 3 * x.1 + (if x.2 = 1 then 0 else if x.2 = 2 then 1 else 2)
theorem pts_len {q : List Pt} {N : Nat} (hn : q.Nodup) (h : ∀ x ∈ q, x.1 < N ∧ okS x.2) : q.length ≤ 3 * N := by
  have hinj : ∀ x ∈ q, ∀ y ∈ q, code3 x = code3 y → x = y := by
    intro x hx y hy e
    obtain ⟨_, h1⟩ := h x hx
    obtain ⟨_, h2⟩ := h y hy
    obtain ⟨a, b⟩ := x
    obtain ⟨c, d⟩ := y
    unfold code3 okS at *
    simp only at *
    rcases h1 with rfl | rfl | rfl <;> rcases h2 with rfl | rfl | rfl <;> simp at e ⊢ <;> omega
  have hnd : (q.map code3).Nodup := by
    clear h
    induction q with
    | nil => simp
    | cons x r ih =>
      simp only [List.map_cons, List.nodup_cons] at hn ⊢
      refine ⟨fun hm => ?_, ih hn.2 fun y hy z hz => hinj y (by simp [hy]) z (by simp [hz])⟩
      obtain ⟨y, hy, e⟩ := List.mem_map.1 hm
      have := hinj y (by simp [hy]) x (by simp) e
      subst this
      exact hn.1 hy
  have := pigeon (3 * N) (q.map code3) hnd (fun c hc => by
    obtain ⟨x, hx, rfl⟩ := List.mem_map.1 hc
    obtain ⟨h1, h2⟩ := h x hx
    unfold code3
    split <;> (try split) <;> omega)
  simpa using this
def mt (q : List Pt) (i : Nat) : Int := (if (i, 1) ∈ q then 1 else 0) + (if (i, 2) ∈ q then 2 else 0) + (if (i, 4) ∈ q then 4 else 0)
theorem mt_range (q : List Pt) (i : Nat) : 0 ≤ mt q i ∧ mt q i ≤ 7 := by unfold mt; split <;> split <;> split <;> omega
def bitand (a b : Int) : Int := IntKind.i64.wrap (BitVec.ofInt IntKind.i64.bits a &&& BitVec.ofInt IntKind.i64.bits b).toNat
theorem mt_and {q : List Pt} {i : Nat} {s : Int} (h : okS s) : bitand (mt q i) s = if (i, s) ∈ q then s else 0 := by
  unfold mt
  rcases h with rfl | rfl | rfl <;> (by_cases h1 : (i, (1 : Int)) ∈ q) <;> (by_cases h2 : (i, (2 : Int)) ∈ q) <;> (by_cases h4 : (i, (4 : Int)) ∈ q) <;> simp only [h1, h2, h4, if_true, if_false] <;> decide
theorem mt_and0 {q : List Pt} {i : Nat} {s : Int} (h : okS s) : bitand (mt q i) s = 0 ↔ (i, s) ∉ q := by
  rw [mt_and h]
  split
  · rename_i hm; rcases h with rfl | rfl | rfl <;> simp [hm]
  · rename_i hm; simp [hm]
theorem mt_snoc {q : List Pt} {i : Nat} {s : Int} (h : okS s) (hn : (i, s) ∉ q) (j : Nat) : mt (q ++ [(i, s)]) j = if j = i then mt q j + s else mt q j := by
  unfold mt
  simp only [List.mem_append, List.mem_singleton, Prod.mk.injEq]
  by_cases e : j = i
  · subst e
    rcases h with rfl | rfl | rfl <;> simp [hn] <;> omega
  · simp [e]
/-- what a search has come to: the points met, in order; those up to k have been looked at -/
structure Srch (f : Fn) (slot : Int) (q : List Pt) (k : Nat) : Prop where
  nodup : q.Nodup
  first : q[0]? = some (0, 1)
  reach : ∀ x ∈ q, Reach f slot x
  inr : ∀ x ∈ q, x.1 < f.code.length ∧ okS x.2
  done : ∀ j x, j < k → q[j]? = some x → ∀ y ∈ succs f slot x, y ∈ q
theorem Srch.begin {f : Fn} {slot : Int} (h : 1 ≤ f.code.length) : Srch f slot [(0, 1)] 0 :=
  ⟨by simp, rfl, fun x hx => by simp at hx; subst hx; exact .start, fun x hx => by simp at hx; subst hx; exact ⟨by simp; omega, .inl rfl⟩, fun j x hj => by omega⟩
theorem Srch.all {f : Fn} {slot : Int} {q : List Pt} (h : Srch f slot q q.length) (x : Pt) : x ∈ q ↔ Reach f slot x := by
  refine ⟨h.reach x, fun hr => ?_⟩
  induction hr with
  | start => exact List.mem_of_getElem? h.first
  | step _ hy ih =>
    obtain ⟨j, hj⟩ := List.getElem?_of_mem ih
    exact h.done j _ (List.getElem?_eq_some_iff.1 hj).1 hj _ hy
theorem Srch.len {f : Fn} {slot : Int} {q : List Pt} {k : Nat} (h : Srch f slot q k) : q.length ≤ 3 * f.code.length := pts_len h.nodup h.inr
theorem Srch.snoc {f : Fn} {slot : Int} {q : List Pt} {k : Nat} (h : Srch f slot q k) {x y : Pt} (hx : q[k]? = some x) (hy : y ∈ succs f slot x) (hr : y.1 < f.code.length) (ho : okS y.2) (hn : y ∉ q) : Srch f slot (q ++ [y]) k := by
  refine ⟨?_, ?_, ?_, ?_, ?_⟩
  · rw [List.nodup_append]
    refine ⟨h.nodup, by simp, fun a ha b hb => ?_⟩
    simp at hb; subst hb; exact fun e => hn (e ▸ ha)
  · rw [List.getElem?_append_left]
    · exact h.first
    · exact (List.getElem?_eq_some_iff.1 h.first).1
  · intro z hz
    rcases List.mem_append.1 hz with hz | hz
    · exact h.reach z hz
    · simp at hz; subst hz; exact .step (h.reach x (List.mem_of_getElem? hx)) hy
  · intro z hz
    rcases List.mem_append.1 hz with hz | hz
    · exact h.inr z hz
    · simp at hz; subst hz; exact ⟨hr, ho⟩
  · intro j z hj hz u hu
    have hlt := (List.getElem?_eq_some_iff.1 hx).1
    rw [List.getElem?_append_left (by omega)] at hz
    exact List.mem_append_left _ (h.done j z hj hz u hu)
theorem Srch.next {f : Fn} {slot : Int} {q : List Pt} {k : Nat} (h : Srch f slot q k) {x : Pt} (hx : q[k]? = some x) (hall : ∀ y ∈ succs f slot x, y ∈ q) : Srch f slot q (k + 1) :=
  ⟨h.nodup, h.first, h.reach, h.inr, fun j z hj hz u hu => by
    rcases Nat.lt_or_ge j k with h1 | h1
    · exact h.done j z h1 hz u hu
    · have : j = k := by omega
      subst this
      rw [hx] at hz; simp at hz; subst hz
      exact hall u hu⟩
end Go.Proofs.YtbbadmlekagloaaDoor
namespace Go.Sh
open Go.RowKit

def dstOf (ops : Array Oper) (i : Nat) : Option Nat := (ops[i]?).bind (·.dst)
def gdOf (ops : Array Oper) (o : Oper) : List Nat := match o.guard with | some (j, _) => (dstOf ops j).toList | none => []
def rdOf (ops : Array Oper) (i : Nat) : List Nat := match ops[i]? with | some o => tmpsOf o ++ gdOf ops o | none => []
def afterOf (ops : Array Oper) (i : Nat) : List Nat := match ops[i]? with | some o => (o.after.toList.filter (Region.binds .any)).map (·.on) | none => []
def ancF (ops : Array Oper) : Nat → Nat → List Nat
  | 0, _ => []
  | f + 1, i => (afterOf ops i).flatMap fun j => j :: ancF ops f j
def AlP (ops : Array Oper) (k : Nat) : Prop :=
  k + 1 < ops.size ∧ (∀ i, i < ops.size → ∀ j ∈ afterOf ops i, j < i) ∧ (∀ j, j < ops.size - 1 → j ∈ ancF ops ops.size (ops.size - 1)) ∧
  (∀ i, i < ops.size → ∀ j, j < ops.size → i ≠ j → (dstOf ops i ≠ none → dstOf ops j ≠ dstOf ops i) ∧
    (i ≠ k → i + 1 ≠ ops.size → ∀ t ∈ rdOf ops i, dstOf ops j = some t → j ≠ k ∧ ((j < i ∧ j ∈ ancF ops ops.size i) ∨ (i < j ∧ i ∈ ancF ops ops.size j))))
def alB (ops : Array Oper) (k : Nat) : Bool :=
  decide (k + 1 < ops.size) && ((List.range ops.size).all fun i => (afterOf ops i).all fun j => decide (j < i)) && ((List.range (ops.size - 1)).all fun j => decide (j ∈ ancF ops ops.size (ops.size - 1))) &&
  ((List.range ops.size).all fun i => (List.range ops.size).all fun j => decide (i = j) || ((decide (dstOf ops i = none) || decide (dstOf ops j ≠ dstOf ops i)) &&
    (decide (i = k) || decide (i + 1 = ops.size) || (rdOf ops i).all fun t => decide (dstOf ops j ≠ some t) || (decide (j ≠ k) && ((decide (j < i) && decide (j ∈ ancF ops ops.size i)) || (decide (i < j) && decide (i ∈ ancF ops ops.size j)))))))
theorem alB_spec {ops : Array Oper} {k : Nat} (h : alB ops k = true) : AlP ops k := by
  simp only [alB, Bool.and_eq_true, Bool.or_eq_true, List.all_eq_true, List.mem_range, decide_eq_true_eq] at h
  obtain ⟨⟨⟨h1, h2⟩, h3⟩, h4⟩ := h
  refine ⟨h1, h2, h3, fun i hi j hj hne => ?_⟩
  rcases h4 i hi j hj with e | ⟨h5, h6⟩
  · exact absurd e hne
  · refine ⟨fun hn => ?_, fun hk hf t ht hd => ?_⟩
    · rcases h5 with e | e
      · exact absurd e hn
      · exact e
    · rcases h6 with (e | e) | e
      · exact absurd e hk
      · exact absurd e hf
      · rcases e t ht with e | e
        · exact absurd hd e
        · exact e

def Lst (listed : Array Bool) (i : Nat) : Prop := listed.getD i true = true
section
variable {P : Program} {T : Tab} {n : Nat} {ops : Array Oper} {k : Nat}
def Closed (ops : Array Oper) (listed : Array Bool) : Prop := ∀ i, i < ops.size → Lst listed i → ∀ j ∈ afterOf ops i, Lst listed j
theorem closed_anc {listed : Array Bool} (hc : Closed ops listed) (hac : ∀ i, i < ops.size → ∀ j ∈ afterOf ops i, j < i) : ∀ (f i j : Nat), i < ops.size → Lst listed i → j ∈ ancF ops f i → Lst listed j
  | 0, _, _, _, _, h => by simp [ancF] at h
  | f + 1, i, j, hi, hl, h => by
    simp only [ancF, List.mem_flatMap, List.mem_cons] at h
    obtain ⟨m, hm, h⟩ := h
    have hlm := hc i hi hl m hm
    rcases h with rfl | h
    · exact hlm
    · exact closed_anc hc hac f m j (by have := hac i hi m hm; omega) hlm h
def cnt (listed : Array Bool) : Nat → Nat
  | 0 => 0
  | m + 1 => cnt listed m + (if listed.getD m true = true then 0 else 1)
theorem getD_set (listed : Array Bool) (i j : Nat) (hi : i < listed.size) : (listed.setIfInBounds i true).getD j true = if j = i then true else listed.getD j true := by
  simp only [Array.getD_eq_getD_getElem?, Array.getElem?_setIfInBounds]
  by_cases h : i = j
  · subst h; simp [hi]
  · rw [if_neg h, if_neg (fun e => h e.symm)]
theorem cnt_set (listed : Array Bool) (i : Nat) (hi : i < listed.size) (hn : ¬ Lst listed i) : ∀ m, cnt (listed.setIfInBounds i true) m + (if i < m then 1 else 0) = cnt listed m
  | 0 => by simp [cnt]
  | m + 1 => by
    have ih := cnt_set listed i hi hn m
    simp only [cnt, getD_set _ _ _ hi]
    unfold Lst at hn
    by_cases h : m = i
    · subst h
      rw [if_neg (by omega)] at ih
      rw [if_pos rfl, if_pos rfl, if_pos (by omega), if_neg hn]
      omega
    · rw [if_neg h]
      by_cases h2 : i < m
      · rw [if_pos h2] at ih; rw [if_pos (show i < m + 1 by omega)]; omega
      · rw [if_neg h2] at ih; rw [if_neg (show ¬ i < m + 1 by omega)]; omega
theorem cnt_pos (listed : Array Bool) (i : Nat) (hn : ¬ Lst listed i) : ∀ m, i < m → 0 < cnt listed m
  | 0, h => by omega
  | m + 1, h => by
    simp only [cnt]
    by_cases e : i = m
    · subst e; unfold Lst at hn; simp [hn]
    · have := cnt_pos listed i hn m (by omega); omega
theorem getD_both' {listed : Array Bool} {j : Nat} (h : j < listed.size) : listed.getD j false = listed.getD j true := by
  simp [Array.getD_eq_getD_getElem?, Array.getElem?_eq_getElem h]
theorem mem_ready {listed : Array Bool} (hs : listed.size = ops.size) (hac : ∀ i, i < ops.size → ∀ j ∈ afterOf ops i, j < i) {i : Nat} : i ∈ Region.ready .any ops listed ↔ i < ops.size ∧ ¬ Lst listed i ∧ ∀ j ∈ afterOf ops i, Lst listed j := by
  unfold Region.ready
  simp only [List.mem_filter, List.mem_range, Bool.and_eq_true, Bool.not_eq_true']
  constructor
  · rintro ⟨h1, h2, h3⟩
    refine ⟨h1, by unfold Lst; simp [h2], fun j hj => ?_⟩
    have hlt := hac i h1 j hj
    unfold afterOf at hj
    simp only [Array.getElem?_eq_getElem h1] at hj h3
    simp only [List.mem_map, List.mem_filter] at hj
    obtain ⟨e, ⟨he, hb⟩, rfl⟩ := hj
    simp only [Option.map_some, Option.getD_some, Array.all_eq_true'] at h3
    have := h3 e (by simpa using he)
    simp only [hb, Bool.not_true, Bool.false_or] at this
    unfold Lst
    rw [← getD_both' (by omega)]
    exact this
  · rintro ⟨h1, h2, h3⟩
    refine ⟨h1, by unfold Lst at h2; simpa using h2, ?_⟩
    simp only [Array.getElem?_eq_getElem h1, Option.map_some, Option.getD_some, Array.all_eq_true']
    intro e he
    by_cases hb : Region.binds .any e = true
    · have hm : e.on ∈ afterOf ops i := by
        unfold afterOf
        simp only [Array.getElem?_eq_getElem h1, List.mem_map, List.mem_filter]
        exact ⟨e, ⟨by simpa using he, hb⟩, rfl⟩
      have := h3 _ hm
      have hlt := hac i h1 _ hm
      unfold Lst at this
      rw [← getD_both' (by omega)] at this
      simp [this]
    · simp [hb]
def PhiF (F : Fr) (l : List Oper) (vals : Nat → Value) : Nat → Nat → Option Value
  | 0, t => look F.env t
  | m + 1, t => if (l[m]?).bind (·.dst) = some t then some (vals m) else PhiF F l vals m t
theorem PhiF_cons {F F1 : Fr} {o : Oper} {r : List Oper} {vals vals1 : Nat → Value} {v : Value} (h0 : vals 0 = v) (h1 : ∀ m, vals (m + 1) = vals1 m)
    (hF : ∀ t, look F1.env t = look (F.put o.dst v).env t) : ∀ m t, PhiF F (o :: r) vals (m + 1) t = PhiF F1 r vals1 m t
  | 0, t => by
    simp only [PhiF, List.getElem?_cons_zero, Option.bind_some, h0, hF]
    cases hd : o.dst with
    | none => simp [Fr.put]
    | some d =>
      simp only [Fr.put, look, Option.some.injEq]
      by_cases e : d = t
      · subst e; simp
      · have : Nat.beq d t = false := by cases hb : Nat.beq d t with | false => rfl | true => exact absurd (Nat.eq_of_beq_eq_true hb) e
        rw [if_neg e, this]
  | m + 1, t => by
    have ih := PhiF_cons (r := r) h0 h1 hF m t
    show (if ((o :: r)[m + 1]?).bind (·.dst) = some t then some (vals (m + 1)) else PhiF F (o :: r) vals (m + 1) t) = (if (r[m]?).bind (·.dst) = some t then some (vals1 m) else PhiF F1 r vals1 m t)
    rw [ih, h1, List.getElem?_cons_succ]
theorem PhiF_none {F : Fr} {l : List Oper} {vals : Nat → Value} {t : Nat} : ∀ m, (∀ j, j < m → (l[j]?).bind (·.dst) ≠ some t) → PhiF F l vals m t = look F.env t
  | 0, _ => rfl
  | m + 1, h => by rw [PhiF, if_neg (h m (by omega)), PhiF_none m (fun j hj => h j (by omega))]
theorem PhiF_some {F : Fr} {l : List Oper} {vals : Nat → Value} {t j : Nat} (hj : (l[j]?).bind (·.dst) = some t) (hu : ∀ i, i ≠ j → (l[i]?).bind (·.dst) ≠ some t) : ∀ m, j < m → PhiF F l vals m t = some (vals j)
  | 0, h => by omega
  | m + 1, h => by
    rw [PhiF]
    by_cases e : m = j
    · subst e; rw [if_pos hj]
    · rw [if_neg (hu m e), PhiF_some hj hu m (by omega)]
variable {W : World → Prop} {Rl : World → World → Prop}
/-- one operation, where its own reads are as they should be -/
def Yq (P : Program) (W : World → Prop) (Rl : World → World → Prop) (ops : Array Oper) (o : Oper) (v : Value) (Φ : Nat → Option Value) : Prop :=
  ∀ a : Act, (∀ t ∈ tmpsOf o ++ gdOf ops o, ∀ u, Φ t = some u → a.tmps[t]? = some u) →
    (Region.wanted o (yielded ops a.tmps) = false ∧ v = undef) ∨
    (Region.wanted o (yielded ops a.tmps) = true ∧ ∀ w, W w → (execOp a.eval o).run P w = Result.ok (.value v) w ∨
      ∃ f args, (execOp a.eval o).run P w = Result.ok (.enter f args) w ∧ Cl P f args w (fun u w'' => u = v ∧ Rl w w'') (fun _ _ => False))
theorem ev_of_phi {o : Oper} {F : Fr} {a : Act} {Φ : Nat → Option Value} (hΦ : ∀ t, look F.env t = Φ t) (ha : ∀ t ∈ tmpsOf o, ∀ u, Φ t = some u → a.tmps[t]? = some u) : ∀ x u, evR o F x = some u → a.eval x = u := by
  intro x u h
  cases x with
  | tmp t =>
    simp only [evR] at h
    split at h
    · rename_i hm
      have hmem : t ∈ tmpsOf o := by
        clear ha h
        generalize tmpsOf o = l at hm
        induction l with
        | nil => simp [memN] at hm
        | cons y r ih =>
          simp only [memN] at hm
          split at hm
          · rename_i he; have := Nat.eq_of_beq_eq_true he; subst this; simp
          · exact List.mem_cons_of_mem _ (ih hm)
      have := ha t hmem u (by rw [← hΦ]; exact h)
      simp [Act.eval, Array.getD_eq_getD_getElem?, this]
    · simp at h
  | const c => simpa [evR, Act.eval] using h
  | global g => simpa [evR, Act.eval] using h
  | func f => simpa [evR, Act.eval] using h
theorem look_put_same {F : Fr} {d : Nat} {v : Value} (h : look F.env d = some v) (t : Nat) : look (F.put (some d) v).env t = look F.env t := by
  simp only [Fr.put, look]
  split
  · rename_i he; have := Nat.eq_of_beq_eq_true he; subst this; exact h.symm
  · rfl
theorem look_put_congr {F F' : Fr} (h : ∀ t, look F.env t = look F'.env t) (d : Option Nat) (v : Value) (t : Nat) : look (F.put d v).env t = look (F'.put d v).env t := by
  cases d with
  | none => exact h t
  | some d => simp only [Fr.put, look]; split <;> simp_all
theorem guardV_spec {F : Fr} {j d : Nat} {v : Value} (hg : guardV ops.toList F j = some (d, v)) : look F.env d = some v ∧ dstOf ops j = some d := by
  unfold guardV at hg
  split at hg; · simp at hg
  rename_i o ho
  split at hg; · simp at hg
  rename_i d' hd
  split at hg <;> simp at hg
  rename_i u hu
  obtain ⟨rfl, rfl⟩ := hg
  refine ⟨hu, ?_⟩
  unfold dstOf
  have : ops[j]? = some o := by simpa using ho
  simp [this, hd]
def ybool : Value → Option Bool
  | .bool b => some b
  | _ => none
theorem yielded_of {a : Act} {j d : Nat} {v : Value} (hd : dstOf ops j = some d) (h : a.tmps[d]? = some v) : yielded ops a.tmps j = ybool v := by
  unfold yielded
  unfold dstOf at hd
  simp only [hd, Option.bind_some, h]
  cases v <;> rfl
theorem quOps_trace (hT : TabOk P T) : ∀ (l : List Oper) (F : Fr) (k : Fr → Prop), quOps P T n W Rl ops.toList l F k →
    ∃ (vals : Nat → Value) (F' : Fr), (∀ m o, l[m]? = some o → dstOk n o.dst = true ∧ Yq P W Rl ops o (vals m) (PhiF F l vals m)) ∧ (∀ t, look F'.env t = PhiF F l vals l.length t) ∧ F'.ds = F.ds ∧ k F'
  | [], F, k, h => ⟨fun _ => undef, F, fun m o h => by simp at h, fun t => rfl, rfl, h⟩
  | o :: r, F, k, h => by
    change stepQu P T n W Rl ops.toList o r (quOps P T n W Rl ops.toList r) F k at h
    unfold stepQu at h
    split at h; · exact h.elim
    rename_i hd
    -- what is left: a value, a frame that looks like F with it
    have key : ∀ (v : Value) (F1 : Fr), (∀ t, look F1.env t = look (F.put o.dst v).env t) → F1.ds = F.ds → Yq P W Rl ops o v (look F.env) → quOps P T n W Rl ops.toList r F1 k →
        ∃ (vals : Nat → Value) (F' : Fr), (∀ m o', (o :: r)[m]? = some o' → dstOk n o'.dst = true ∧ Yq P W Rl ops o' (vals m) (PhiF F (o :: r) vals m)) ∧ (∀ t, look F'.env t = PhiF F (o :: r) vals (o :: r).length t) ∧ F'.ds = F.ds ∧ k F' := by
      intro v F1 hF1 hds hy hq
      obtain ⟨vals1, F', h1, h2, h3, h4⟩ := quOps_trace hT r F1 k hq
      have hcons := PhiF_cons (F := F) (F1 := F1) (o := o) (r := r) (vals := fun m => match m with | 0 => v | m + 1 => vals1 m) (vals1 := vals1) rfl (fun _ => rfl) hF1
      refine ⟨fun m => match m with | 0 => v | m + 1 => vals1 m, F', fun m o' ho => ?_, fun t => ?_, h3.trans hds, h4⟩
      · cases m with
        | zero =>
          simp at ho; subst ho
          exact ⟨hd, hy⟩
        | succ m =>
          simp at ho
          obtain ⟨g1, g2⟩ := h1 m o' ho
          refine ⟨g1, ?_⟩
          have : PhiF F (o :: r) (fun m => match m with | 0 => v | m + 1 => vals1 m) (m + 1) = PhiF F1 r vals1 m := funext (hcons m)
          rw [this]; exact g2
      · rw [List.length_cons, hcons, h2]
    split at h
    · rename_i hg
      obtain ⟨v, hv, hr⟩ := quOp_run hT h
      refine key v _ (fun t => rfl) (by cases o.dst <;> rfl) (fun a ha => .inr ⟨wanted_none hg, fun w hw => hr a (ev_of_phi (fun t => rfl) fun t ht u hu => ha t (by simp [ht]) u hu) w hw⟩) hv
    · rename_i j want hg
      split at h; · exact h.elim
      rename_i d v hgv
      obtain ⟨hl, hdj⟩ := guardV_spec hgv
      have hgm : d ∈ tmpsOf o ++ gdOf ops o := by simp [gdOf, hg, hdj]
      have hyl : ∀ a : Act, (∀ t ∈ tmpsOf o ++ gdOf ops o, ∀ u, look F.env t = some u → a.tmps[t]? = some u) → yielded ops a.tmps j = ybool v := fun a ha => yielded_of hdj (ha d hgm v hl)
      have sk : ∀ F1 : Fr, (∀ t, look F1.env t = look F.env t) → F1.ds = F.ds → (∀ a : Act, (∀ t ∈ tmpsOf o ++ gdOf ops o, ∀ u, look F.env t = some u → a.tmps[t]? = some u) → Region.wanted o (yielded ops a.tmps) = false) →
          quOps P T n W Rl ops.toList r (F1.put o.dst undef) k →
          ∃ (vals : Nat → Value) (F' : Fr), (∀ m o', (o :: r)[m]? = some o' → dstOk n o'.dst = true ∧ Yq P W Rl ops o' (vals m) (PhiF F (o :: r) vals m)) ∧ (∀ t, look F'.env t = PhiF F (o :: r) vals (o :: r).length t) ∧ F'.ds = F.ds ∧ k F' := fun F1 hF1 hds hno hq =>
        key undef _ (look_put_congr hF1 o.dst undef) (by cases o.dst <;> exact hds) (fun a ha => .inl ⟨hno a ha, rfl⟩) hq
      have ex : ∀ F1 : Fr, (∀ t, look F1.env t = look F.env t) → F1.ds = F.ds → (∀ a : Act, (∀ t ∈ tmpsOf o ++ gdOf ops o, ∀ u, look F.env t = some u → a.tmps[t]? = some u) → Region.wanted o (yielded ops a.tmps) = true) →
          quOp P T W Rl (evR o F1) o (fun v => quOps P T n W Rl ops.toList r (F1.put o.dst v) k) →
          ∃ (vals : Nat → Value) (F' : Fr), (∀ m o', (o :: r)[m]? = some o' → dstOk n o'.dst = true ∧ Yq P W Rl ops o' (vals m) (PhiF F (o :: r) vals m)) ∧ (∀ t, look F'.env t = PhiF F (o :: r) vals (o :: r).length t) ∧ F'.ds = F.ds ∧ k F' := fun F1 hF1 hds hyes hq => by
        obtain ⟨v, hv, hr⟩ := quOp_run hT hq
        exact key v _ (look_put_congr hF1 o.dst v) (by cases o.dst <;> exact hds) (fun a ha => .inr ⟨hyes a ha, fun w hw => hr a (ev_of_phi hF1 fun t ht u hu => ha t (by simp [ht]) u hu) w hw⟩) hv
      split at h
      · rename_i b
        simp only [ybool] at hyl
        split at h
        · cases b
          · exact sk _ (look_put_same hl) rfl (fun a ha => by simp [Region.wanted, hg, hyl a ha]) (h.2 rfl)
          · exact ex _ (look_put_same hl) rfl (fun a ha => by simp [Region.wanted, hg, hyl a ha]) (h.1 rfl)
        · cases b
          · exact ex _ (look_put_same hl) rfl (fun a ha => by simp [Region.wanted, hg, hyl a ha]) (h.2 rfl)
          · exact sk _ (look_put_same hl) rfl (fun a ha => by simp [Region.wanted, hg, hyl a ha]) (h.1 rfl)
      · simp only [ybool] at hyl
        exact sk F (fun _ => rfl) rfl (fun a ha => by simp [Region.wanted, hg, hyl a ha]) h
      · exact h.elim
def ix (k i : Nat) : Nat := if i < k then i else i - 1
def quL (ops : Array Oper) (k : Nat) : List Oper := (ops.toList.dropLast).eraseIdx k
theorem quL_get {i : Nat} (_hk : k + 1 < ops.size) (hi : i + 1 < ops.size) (hne : i ≠ k) : (quL ops k)[ix k i]? = ops[i]? := by
  unfold quL ix
  rw [List.getElem?_eraseIdx]
  by_cases h : i < k
  · rw [if_pos h, if_pos h, List.getElem?_dropLast, if_pos (by simp; omega)]; simp
  · rw [if_neg h, if_neg (by omega), show i - 1 + 1 = i by omega, List.getElem?_dropLast, if_pos (by simp; omega)]; simp
theorem quL_get' {m : Nat} (hk : k + 1 < ops.size) : (quL ops k)[m]? = if m < k then ops[m]? else if m + 2 < ops.size then ops[m + 1]? else none := by
  unfold quL
  rw [List.getElem?_eraseIdx]
  by_cases h : m < k
  · rw [if_pos h, if_pos h, List.getElem?_dropLast, if_pos (by simp; omega)]; simp
  · rw [if_neg h, if_neg h, List.getElem?_dropLast]
    by_cases h2 : m + 2 < ops.size
    · rw [if_pos h2, if_pos (by simp; omega)]; simp
    · rw [if_neg h2, if_neg (by simp; omega)]
theorem quL_len (hk : k + 1 < ops.size) : (quL ops k).length = ops.size - 2 := by
  unfold quL
  rw [List.length_eraseIdx, if_pos (by simp; omega)]
  simp; omega
theorem Dr.al (hT : TabOk P T) (hm : P.follows .mixedOrders = true) (k : Nat) {id : Nat} {F : Fr} {w : World} {K : Exit → Fr → World → Prop} {ty : TypeId} {ti : TI} {ok of : Oper} {dk : Nat}
    (hB : alB ops k = true) (hk : ops[k]? = some ok) (hko : ok.op = .alloc ty) (hkg : ok.guard = none) (hkd : ok.dst = some dk) (hkn : dstOk n (some dk) = true) (hti : getT T.ts ty = some ti)
    (hf : ops.toList.getLast? = some of) (hfg : of.guard = none)
    (h : ∀ W, QW W w Ext → quOps P T n W Ext ops.toList (quL ops k) F (fun F' => ∀ p w', w.heap.size ≤ p → Ext w w' → Blk w' p ty ti.zero.cells.toList →
      exOps P T n ops.toList [of] (F'.put (some dk) (.pointer (some ⟨p, 0, none⟩))) w' (fun F w => K .normal F w) (fun ch F w => K (.panic ch) F w))) : Dr P n id ops F w K := by
  obtain ⟨hk1, hac, hlast, huq⟩ := alB_spec hB
  obtain ⟨vals, F', hY, hlook, hds, hfin⟩ := quOps_trace hT (quL ops k) F _ (h (fun x => Ext w x) ⟨fun _ q => q, fun a b q r => q.trans r⟩)
  have hN : ops.size - 1 < ops.size := by omega
  have hofx : ops[ops.size - 1]? = some of := by
    rw [List.getLast?_eq_getElem?] at hf
    simpa using hf
  have hlenq := quL_len (ops := ops) hk1
  have hdq : ∀ m, ((quL ops k)[m]?).bind (·.dst) = if m < k then dstOf ops m else if m + 2 < ops.size then dstOf ops (m + 1) else none := fun m => by
    rw [quL_get' hk1]
    unfold dstOf
    split
    · rfl
    · split <;> rfl
  -- the look of a slot ahead of operation i
  have hPhi : ∀ (i : Nat), i + 1 < ops.size → i ≠ k → ∀ (t : Nat) (M : Nat), (∀ j, j + 1 < ops.size → j ≠ k → dstOf ops j = some t → ix k j < M → False) → PhiF F (quL ops k) vals M t = look F.env t := by
    intro i hi hne t M hno
    refine PhiF_none M fun m hm hd => ?_
    rw [hdq] at hd
    split at hd
    · rename_i hlt
      exact hno m (by omega) (by omega) hd (by unfold ix; rw [if_pos hlt]; exact hm)
    · rename_i hge
      split at hd
      · rename_i hlt
        exact hno (m + 1) (by omega) (by omega) hd (by unfold ix; rw [if_neg (by omega)]; omega)
      · simp at hd
  have hPhiW : ∀ (j t M : Nat), j + 1 < ops.size → j ≠ k → dstOf ops j = some t → ix k j < M → PhiF F (quL ops k) vals M t = some (vals (ix k j)) := by
    intro j t M hj hjk hd hlt
    refine PhiF_some ?_ (fun m hm hd' => ?_) M hlt
    · rw [quL_get hk1 hj hjk]; exact hd
    · rw [hdq] at hd'
      split at hd'
      · rename_i hmk
        have hmj : m ≠ j := fun e => by subst e; unfold ix at hm; rw [if_pos hmk] at hm; exact hm rfl
        exact (huq j (by omega) m (by omega) (fun e => hmj e.symm)).1 (by rw [hd]; simp) (by rw [hd, hd'])
      · rename_i hmk
        split at hd'
        · have hmj : m + 1 ≠ j := fun e => by subst e; unfold ix at hm; rw [if_neg (by omega)] at hm; exact hm (by omega)
          exact (huq j (by omega) (m + 1) (by omega) (fun e => hmj e.symm)).1 (by rw [hd]; simp) (by rw [hd, hd'])
        · simp at hd'
  refine ⟨fun a0 ha0 => ?_⟩
  refine wp_region_any hm ?_
  -- the state while operations come up
  have main : ∀ (fuel : Nat) (listed : Array Bool) (a : Act) (w' : World), listed.size = ops.size → Closed ops listed → cnt listed ops.size ≤ fuel → ¬ Lst listed (ops.size - 1) → Ext w w' →
      a.tmps.size = n → a.defers = F.ds → (∀ i, i + 1 < ops.size → i ≠ k → Lst listed i → ∀ d, dstOf ops i = some d → a.tmps[d]? = some (vals (ix k i))) →
      (∀ t u, look F.env t = some u → (∀ i, i < ops.size → Lst listed i → dstOf ops i ≠ some t) → a.tmps[t]? = some u) →
      (Lst listed k → ∃ p, a.tmps[dk]? = some (.pointer (some ⟨p, 0, none⟩)) ∧ Blk w' p ty ti.zero.cells.toList ∧ w.heap.size ≤ p) →
      wpAny P .any ops (Lift n K) fuel listed a w' := by
    intro fuel
    induction fuel with
    | zero => intro listed a w' _ _ hc hnl; exact absurd (cnt_pos listed _ hnl ops.size hN) (by omega)
    | succ fuel ih =>
      intro listed a w' hs hcl hc hnl hx hsz hdf hA hB' hC
      refine ⟨fun hr => ?_, fun i hi => ?_⟩
      · -- some operation is ready
        exfalso
        have : ∃ i, i < ops.size ∧ ¬ Lst listed i ∧ ∀ j, j < i → Lst listed j := by
          have : ∀ m, m ≤ ops.size - 1 → (∀ j, j < m → Lst listed j) ∨ ∃ i, i < ops.size ∧ ¬ Lst listed i ∧ ∀ j, j < i → Lst listed j := by
            intro m
            induction m with
            | zero => intro _; exact .inl fun j hj => by omega
            | succ m ihm =>
              intro hm
              rcases ihm (by omega) with h1 | h1
              · by_cases hl : Lst listed m
                · exact .inl fun j hj => (Nat.lt_or_ge j m).elim (h1 j) fun h2 => (show j = m by omega) ▸ hl
                · exact .inr ⟨m, by omega, hl, h1⟩
              · exact .inr h1
          rcases this (ops.size - 1) (Nat.le_refl _) with h1 | h1
          · exact ⟨ops.size - 1, hN, hnl, h1⟩
          · exact h1
        obtain ⟨i, h1, h2, h3⟩ := this
        have := (mem_ready hs hac).2 ⟨h1, h2, fun j hj => h3 j (hac i h1 j hj)⟩
        rw [hr] at this
        exact absurd this (by simp)
      · obtain ⟨hi1, hi2, hi3⟩ := (mem_ready hs hac).1 hi
        have hs' : (listed.setIfInBounds i true).size = ops.size := by simpa using hs
        have hLs : ∀ j, Lst (listed.setIfInBounds i true) j ↔ j = i ∨ Lst listed j := fun j => by
          unfold Lst; rw [getD_set _ _ _ (by omega)]; by_cases e : j = i <;> simp [e]
        have hcl' : Closed ops (listed.setIfInBounds i true) := fun m hm hl j hj => by
          rw [hLs] at hl ⊢
          rcases hl with rfl | hl
          · exact .inr (hi3 j hj)
          · exact .inr (hcl m hm hl j hj)
        have hc' : cnt (listed.setIfInBounds i true) ops.size ≤ fuel := by
          have := cnt_set listed i (by omega) hi2 ops.size
          rw [if_pos hi1] at this; omega
        have hanc : ∀ j, j ∈ ancF ops ops.size i → Lst listed j := fun j hj => by
          have := closed_anc hcl' hac ops.size i j hi1 ((hLs i).2 (.inl rfl)) hj
          rcases (hLs j).1 this with rfl | h1
          · -- no operation is ahead of itself
            exfalso
            have lt : ∀ (f m j : Nat), m < ops.size → j ∈ ancF ops f m → j < m := by
              intro f
              induction f with
              | zero => intro m j _ h; simp [ancF] at h
              | succ f ihf =>
                intro m j hm h
                simp only [ancF, List.mem_flatMap, List.mem_cons] at h
                obtain ⟨q, hq, h⟩ := h
                have hqm := hac m hm q hq
                rcases h with rfl | h
                · exact hqm
                · have := ihf q j (by omega) h; omega
            have := lt _ _ _ hi1 hj; omega
          · exact h1
        unfold wpOp
        by_cases hlast' : i = ops.size - 1
        · -- the last one
          subst hlast'
          have hall : ∀ j, j < ops.size - 1 → Lst listed j := fun j hj => hanc j (hlast j hj)
          simp only [hofx]
          obtain ⟨p, hp1, hp2, hp3⟩ := hC (hall k (by omega))
          have hagr : Agr n (F'.put (some dk) (.pointer (some ⟨p, 0, none⟩))) a := by
            refine ⟨hsz, by simpa [Fr.put, hds] using hdf, fun t u ht => ?_⟩
            simp only [Fr.put, look] at ht
            split at ht
            · rename_i he; have := Nat.eq_of_beq_eq_true he; subst this
              simp at ht; subst ht; exact hp1
            · rename_i he
              have hne : dk ≠ t := fun e => by subst e; simp at he
              rw [hlook] at ht
              by_cases hw : ∃ j, j + 1 < ops.size ∧ j ≠ k ∧ dstOf ops j = some t
              · obtain ⟨j, h1, h2, h3⟩ := hw
                rw [hPhiW j t _ h1 h2 h3 (by rw [hlenq]; unfold ix; split <;> omega)] at ht
                simp at ht; subst ht
                exact hA j h1 h2 (hall j (by omega)) t h3
              · rw [PhiF_none] at ht
                · refine hB' t u ht fun j hj hl hd => ?_
                  by_cases e1 : j = ops.size - 1
                  · subst e1; exact hnl hl
                  · by_cases e2 : j = k
                    · subst e2
                      unfold dstOf at hd
                      rw [hk] at hd
                      simp [hkd] at hd
                      exact hne hd
                    · exact hw ⟨j, by omega, e2, hd⟩
                · intro m hm hd
                  rw [hdq] at hd
                  split at hd
                  · exact hw ⟨m, by omega, by omega, hd⟩
                  · split at hd
                    · exact hw ⟨m + 1, by omega, by omega, hd⟩
                    · simp at hd
          have hwp := exOps_sound hT ops.toList (Q := Lift n K) [of] _ a w' _ _ hagr (hfin p w' hp3 hx hp2) (fun F a w ha q => ⟨F, ha, q⟩) (fun ch F a w ha q => ⟨F, ha, q⟩)
          unfold wpList at hwp
          rw [if_pos (wanted_none hfg)] at hwp ⊢
          have hready : Region.ready .any ops (listed.setIfInBounds (ops.size - 1) true) = [] := by
            rw [List.eq_nil_iff_forall_not_mem]
            intro j hj
            obtain ⟨h1, h2, _⟩ := (mem_ready hs' hac).1 hj
            refine h2 ((hLs j).2 ?_)
            by_cases e : j = ops.size - 1
            · exact .inl e
            · exact .inr (hall j (by omega))
          rcases hwp with hwp | hwp
          · refine .inl (Oper.wp_mono (fun a w q => ?_) hwp)
            cases fuel with
            | zero => exact ⟨hready, q⟩
            | succ f => exact ⟨fun _ => q, fun j hj => by rw [hready] at hj; exact absurd hj (by simp)⟩
          · exact .inr hwp
        · have hi' : i + 1 < ops.size := by omega
          have hnl' : ¬ Lst (listed.setIfInBounds i true) (ops.size - 1) := fun e => by
            rcases (hLs _).1 e with e | e
            · omega
            · exact hnl e
          by_cases hik : i = k
          · -- the new block
            subst hik
            simp only [hk]
            rw [if_pos (wanted_none hkg)]
            refine .inl ?_
            unfold Oper.wp
            have hrun : (execOp a.eval ok).run P w' = Result.ok (.value (.pointer (some ⟨w'.heap.size, 0, none⟩))) (w'.alloc (.cells ti.zero.cells ty)) := by
              unfold execOp
              simp [hko, Instr.alloc, run_zero hT.1 hti, newVar, newRow]
            refine upon_val hrun ?_
            have hxa := Ext.alloc w' (.cells ti.zero.cells ty)
            have hdn : dk < a.tmps.size := by rw [hsz]; simpa [dstOk] using hkn
            refine ih _ _ _ hs' hcl' hc' hnl' (hx.trans hxa) (by simp [hkd, Act.put, hsz]) (by simpa [hkd, Act.put] using hdf) (fun j hj hjk hl d hd => ?_) (fun t u ht hno => ?_) (fun _ => ⟨w'.heap.size, ?_, ?_, hx.size⟩)
            · have hne : dk ≠ d := fun e => by
                subst e
                refine (huq i hi1 j (by omega) (fun e => hjk e.symm)).1 ?_ ?_ <;> simp [dstOf, hk, hkd] at hd ⊢
                exact hd
              simp only [hkd, Act.put]
              rw [Array.getElem?_setIfInBounds_ne hne]
              exact hA j hj hjk (((hLs j).1 hl).resolve_left hjk) d hd
            · have hne : dk ≠ t := fun e => by
                subst e
                exact hno i hi1 ((hLs i).2 (.inl rfl)) (by simp [dstOf, hk, hkd])
              simp only [hkd, Act.put]
              rw [Array.getElem?_setIfInBounds_ne hne]
              exact hB' t u ht fun j hj hl => hno j hj ((hLs j).2 (.inr hl))
            · simp only [hkd, Act.put]
              rw [Array.getElem?_setIfInBounds_self_of_lt hdn]
            · unfold Blk; show (w'.heap.push _)[w'.heap.size]? = _; simp
          · -- one that changes nothing
            obtain ⟨o, ho⟩ : ∃ o, ops[i]? = some o := ⟨ops[i], Array.getElem?_eq_getElem hi1⟩
            obtain ⟨hdo, hy⟩ := hY (ix k i) o (by rw [quL_get hk1 hi' hik]; exact ho)
            simp only [ho]
            have hreads : ∀ t ∈ tmpsOf o ++ gdOf ops o, ∀ u, PhiF F (quL ops k) vals (ix k i) t = some u → a.tmps[t]? = some u := by
              intro t ht u hu
              have hrd : t ∈ rdOf ops i := by unfold rdOf; simp only [ho]; exact ht
              by_cases hw : ∃ j, j < ops.size ∧ j ≠ i ∧ dstOf ops j = some t
              · obtain ⟨j, h1, h2, h3⟩ := hw
                obtain ⟨hjk, hor⟩ := (huq i hi1 j h1 (fun e => h2 e.symm)).2 hik (by omega) t hrd h3
                rcases hor with ⟨hlt, han⟩ | ⟨hlt, han⟩
                · have hlj := hanc j han
                  rw [hPhiW j t _ (by omega) hjk h3 (by unfold ix; split <;> split <;> omega)] at hu
                  simp at hu; subst hu
                  exact hA j (by omega) hjk hlj t h3
                · -- j comes behind: it isn't listed, nobody has written t
                  have hnlj : ¬ Lst listed j := fun hl => by
                    have := closed_anc hcl hac ops.size j i h1 hl han
                    exact hi2 this
                  have honly : ∀ m, m < ops.size → m ≠ j → dstOf ops m ≠ some t := fun m hm hmj hd => (huq j h1 m hm (fun e => hmj e.symm)).1 (by rw [h3]; simp) (by rw [h3, hd])
                  rw [hPhi i hi' hik t _ (fun m hm hmk hd hlt' => by
                    by_cases e : m = j
                    · subst e; unfold ix at hlt'; split at hlt' <;> split at hlt' <;> omega
                    · exact honly m (by omega) e hd)] at hu
                  exact hB' t u hu fun m hm hl hd => by
                    by_cases e : m = j
                    · subst e; exact hnlj hl
                    · exact honly m hm e hd
              · rw [hPhi i hi' hik t _ (fun m hm hmk hd hlt' => by
                  by_cases e : m = i
                  · subst e; omega
                  · exact hw ⟨m, by omega, e, hd⟩)] at hu
                exact hB' t u hu fun m hm hl hd => by
                  by_cases e : m = i
                  · subst e; exact hi2 hl
                  · exact hw ⟨m, hm, e, hd⟩
            have hnext : ∀ w'', Ext w' w'' → wpAny P .any ops (Lift n K) fuel (listed.setIfInBounds i true) (a.put o.dst (vals (ix k i))) w'' := fun w'' hx' => by
              have hdi : dstOf ops i = o.dst := by simp [dstOf, ho]
              refine ih _ _ _ hs' hcl' hc' hnl' (hx.trans hx') ?_ ?_ (fun j hj hjk hl d hd => ?_) (fun t u ht hno => ?_) (fun hl => ?_)
              · cases o.dst <;> simp [Act.put, hsz]
              · cases o.dst <;> simpa [Act.put] using hdf
              · by_cases e : j = i
                · subst e
                  rw [hdi] at hd
                  rw [hd] at hdo ⊢
                  simp only [Act.put]
                  rw [Array.getElem?_setIfInBounds_self_of_lt (by rw [hsz]; simpa [dstOk] using hdo)]
                · have := hA j hj hjk (((hLs j).1 hl).resolve_left e) d hd
                  cases hod : o.dst with
                  | none => exact this
                  | some d' =>
                    have hne : d' ≠ d := fun e' => by
                      subst e'
                      exact (huq i hi1 j (by omega) (fun e'' => e e''.symm)).1 (by rw [hdi, hod]; simp) (by rw [hdi, hod, hd])
                    simp only [Act.put]
                    rw [Array.getElem?_setIfInBounds_ne hne]
                    exact this
              · have := hB' t u ht fun j hj hl => hno j hj ((hLs j).2 (.inr hl))
                cases hod : o.dst with
                | none => exact this
                | some d' =>
                  have hne : d' ≠ t := fun e' => by subst e'; exact hno i hi1 ((hLs i).2 (.inl rfl)) (by rw [hdi, hod])
                  simp only [Act.put]
                  rw [Array.getElem?_setIfInBounds_ne hne]
                  exact this
              · obtain ⟨p, g1, g2, g3⟩ := hC (((hLs k).1 hl).resolve_left (fun e => hik e.symm))
                refine ⟨p, ?_, g2.ext hx', g3⟩
                cases hod : o.dst with
                | none => exact g1
                | some d' =>
                  have hne : d' ≠ dk := fun e' => by
                    subst e'
                    exact (huq i hi1 k (by omega) hik).1 (by rw [hdi, hod]; simp) (by rw [hdi, hod]; simp [dstOf, hk, hkd])
                  simp only [Act.put]
                  rw [Array.getElem?_setIfInBounds_ne hne]
                  exact g1
            rcases hy a hreads with ⟨hno, hv⟩ | ⟨hyes, hrun⟩
            · rw [if_neg (by rw [hno]; simp)]
              rw [← hv]
              exact hnext w' (Ext.refl _)
            · rw [if_pos hyes]
              refine .inl ?_
              unfold Oper.wp
              rcases hrun w' hx with e | ⟨f, args, e, hcl2⟩
              · exact upon_val e (hnext w' (Ext.refl _))
              · rw [e]
                refine Calls.mono hcl2.out fun en w'' q => ?_
                cases en with
                | returned u => obtain ⟨q1, q2⟩ := q; subst q1; exact hnext w'' q2
                | panicked ch => exact q.elim
                | outgrown => exact q.elim
  refine main ops.size _ a0 _ (by simp) (fun i hi hl => ?_) ?_ ?_ ⟨rfl, rfl, rfl, Nat.le_refl _, fun _ _ => rfl⟩ ha0.1 ha0.2.1 (fun i hi _ hl => ?_) (fun t u ht _ => ha0.2.2 t u ht) (fun hl => ?_)
  · exact absurd hl (by unfold Lst; simp [Array.getD_eq_getD_getElem?, hi])
  · have : ∀ m, m ≤ ops.size → cnt (Array.replicate ops.size false) m ≤ m := by
      intro m
      induction m with
      | zero => intro _; simp [cnt]
      | succ m ihm => intro h; have := ihm (by omega); simp only [cnt]; split <;> omega
    exact this _ (Nat.le_refl _)
  · unfold Lst; simp [Array.getD_eq_getD_getElem?, hN]
  · exact absurd hl (by unfold Lst; simp [Array.getD_eq_getD_getElem?, show i < ops.size by omega])
  · exact absurd hl (by unfold Lst; simp [Array.getD_eq_getD_getElem?, show k < ops.size by omega])
end
end Go.Sh
namespace Go.Proofs.YtbbadmlekagloaaDoor
open Go Go.Sh
set_option linter.unusedVariables false
set_option linter.unusedSimpArgs false
attribute [local irreducible] Blk Ext RdS
theorem putL_ints {l : List Int} {i : Nat} {v : Int} (hi : i < l.length) : putL (l.flatMap ints) (i * 1) [.int .i64 v] = (l.set i v).flatMap ints := by
  rw [Nat.mul_one]
  induction l generalizing i with
  | nil => simp at hi
  | cons x r ih =>
    cases i with
    | zero => simp [putL, ints]
    | succ i =>
      have := ih (i := i) (by simpa using hi)
      simp only [putL, List.length_singleton] at this ⊢
      simp only [List.flatMap_cons, List.set_cons_succ, ints, List.singleton_append, List.cons_append, List.take_succ_cons, List.drop_succ_cons]
      rw [← this]; rfl
theorem St.ints {p t i : Nat} {l : List Int} {v : Int} {w : World} {k : World → Prop} (h : Blk w p t (l.flatMap ints)) (hi : i < l.length)
    (hk : ∀ w', Upd p w w' → Blk w' p t ((l.set i v).flatMap ints) → k w') : St w ((gA (some ⟨p, 0, none⟩)).add (i * 1)) [.int .i64 v] k := by
  simp only [gA]
  rw [add_lit, Nat.zero_add]
  refine St.upd h (Nat.ble_eq_true_of_le (by rw [flat1]; simp; omega)) rfl fun w' u hb => hk w' u ?_
  rw [putL_ints hi] at hb
  exact hb
def pl (q : List Pt) : List Int := q.map fun x => (x.1 : Int)
def sl (q : List Pt) : List Int := q.map fun x => x.2
def metL (q : List Pt) (N : Nat) : List Int := (List.range N).map (mt q)
theorem pl_len (q : List Pt) : (pl q).length = q.length := by simp [pl]
theorem sl_len (q : List Pt) : (sl q).length = q.length := by simp [sl]
theorem metL_len (q : List Pt) (N : Nat) : (metL q N).length = N := by simp [metL]
theorem metL_set {q : List Pt} {N i : Nat} {s : Int} (h : okS s) (hn : (i, s) ∉ q) (hi : i < N) : (metL q N).set i (mt q i + s) = metL (q ++ [(i, s)]) N := by
  apply List.ext_getElem?
  intro j
  rw [List.getElem?_set]
  unfold metL
  simp only [List.getElem?_map, List.length_map, List.length_range]
  by_cases hj : j < N
  · simp only [List.getElem?_range hj, Option.map_some, mt_snoc h hn]
    by_cases e : i = j
    · subst e; simp [hi]
    · rw [if_neg e, if_neg (fun e' => e e'.symm)]
  · have e0 : (List.range N)[j]? = none := List.getElem?_eq_none (by simp; omega)
    rw [e0, if_neg (by omega)]
    rfl
open Classical in
noncomputable def flw (f : Fn) (slot : Int) (i : Nat) : Int := (if Reach f slot (i, 1) then 1 else 0) + (if Reach f slot (i, 2) then 2 else 0) + (if Reach f slot (i, 4) then 4 else 0)
noncomputable def flwL (f : Fn) (slot : Int) : List Int := (List.range f.code.length).map (flw f slot)
theorem mt_flw {f : Fn} {slot : Int} {q : List Pt} (h : Srch f slot q q.length) (i : Nat) : mt q i = flw f slot i := by
  have m1 : ((i, (1 : Int)) ∈ q) = Reach f slot (i, 1) := propext (h.all _)
  have m2 : ((i, (2 : Int)) ∈ q) = Reach f slot (i, 2) := propext (h.all _)
  have m4 : ((i, (4 : Int)) ∈ q) = Reach f slot (i, 4) := propext (h.all _)
  unfold mt flw
  by_cases h1 : Reach f slot (i, 1) <;> by_cases h2 : Reach f slot (i, 2) <;> by_cases h4 : Reach f slot (i, 4) <;> simp [m1, m2, m4, h1, h2, h4]
def IsMet (l : List Int) (w : World) (v : Value) (w' : World) : Prop := ∃ p, v = .slice (some ⟨p, 0, none⟩) l.length l.length ∧ w.heap.size ≤ p ∧ Blk w' p 3 (l.flatMap ints) ∧ Ext w w'
structure J (f : Fn) (A : Option Addr) (c : Nat) (w : World) (p pm : Nat) (m : List Int) (Ap : Option Addr) (cp : Nat) (lp : List Int) (As : Option Addr) (cs : Nat) (ls : List Int) (w' : World) : Prop where
  ext : Ext w w'
  fb : Blk w' p 24 (f.v A c).cells.toList
  met : Blk w' pm 3 (m.flatMap ints)
  op : Own ints 1 3 w' w.heap.size Ap cp lp
  os : Own ints 1 3 w' w.heap.size As cs ls
  np : obk Ap ≠ some pm
  ns : obk As ≠ some pm
  nps : obk Ap ≠ obk As
  pmlo : w.heap.size ≤ pm
section
variable {f : Fn} {A : Option Addr} {c : Nat} {w w1 w2 : World} {p pm : Nat} {m : List Int} {Ap : Option Addr} {cp : Nat} {lp : List Int} {As : Option Addr} {cs : Nat} {ls : List Int}
theorem J.mv (h : J f A c w p pm m Ap cp lp As cs ls w1) (e : Ext w1 w2) : J f A c w p pm m Ap cp lp As cs ls w2 :=
  ⟨h.ext.trans e, h.fb.ext e, h.met.ext e, h.op.ext e, h.os.ext e, h.np, h.ns, h.nps, h.pmlo⟩
theorem J.set (h : J f A c w p pm m Ap cp lp As cs ls w1) (u : Upd pm w1 w2) {m' : List Int} (hb : Blk w2 pm 3 (m'.flatMap ints)) : J f A c w p pm m' Ap cp lp As cs ls w2 :=
  ⟨h.ext.upd u h.pmlo, h.fb.upd u (h.fb.ne h.met (by decide)), hb, h.op.upd' u h.np, h.os.upd' u h.ns, h.np, h.ns, h.nps, h.pmlo⟩
theorem J.appP (h : J f A c w p pm m Ap cp lp As cs ls w1) {A' : Option Addr} {c' : Nat} {x : List Int} (ho : Own ints 1 3 w2 w.heap.size A' c' (lp ++ x)) (g : Grow Ap w1 w2) (hb : obk A' = obk Ap ∨ obk A' = some w1.heap.size) : J f A c w p pm m A' c' (lp ++ x) As cs ls w2 := by
  refine ⟨g.ext h.ext h.op (Nat.le_refl _), h.fb.grow g h.op (by decide), h.met.grow' g h.np, ho, h.os.grow g (.inr fun e => h.nps e.symm), ?_, h.ns, ?_, h.pmlo⟩
  · rcases hb with hb | hb <;> rw [hb]
    · exact h.np
    · have := h.met.lt; simp; omega
  · rcases hb with hb | hb <;> rw [hb]
    · exact h.nps
    · intro e; have := (h.os.obk_lt _ e.symm).1; omega
theorem J.appS (h : J f A c w p pm m Ap cp lp As cs ls w1) {A' : Option Addr} {c' : Nat} {x : List Int} (ho : Own ints 1 3 w2 w.heap.size A' c' (ls ++ x)) (g : Grow As w1 w2) (hb : obk A' = obk As ∨ obk A' = some w1.heap.size) : J f A c w p pm m Ap cp lp A' c' (ls ++ x) w2 := by
  refine ⟨g.ext h.ext h.os (Nat.le_refl _), h.fb.grow g h.os (by decide), h.met.grow' g h.ns, h.op.grow g (.inr h.nps), ho, h.np, ?_, ?_, h.pmlo⟩
  · rcases hb with hb | hb <;> rw [hb]
    · exact h.ns
    · have := h.met.lt; simp; omega
  · rcases hb with hb | hb <;> rw [hb]
    · exact h.nps
    · intro e; have := (h.op.obk_lt _ e).1; omega
end
theorem slotStates_c (f : Fn) (A : Option Addr) (c : Nat) (slot : Int) (w : World) (hA : RdC w A f.code) (hS : soundB f = true) :
    Cl Tryd.prog 49 #[f.v A c, .int .i64 slot] w (IsMet (flwL f slot) w) (fun _ _ => False) := by
  have hsh : shapedB f = true := by simp only [soundB, Bool.and_eq_true] at hS; exact hS.1.1
  obtain ⟨hl1, hl2⟩ := shaped_len hsh
  refine calls_ex (args := [f.v A c, .int .i64 slot]) T.ok Tryd.func49 rfl rfl rfl rfl ?_
  refine Sq.mk ?_
  refine Al.mk fun p w1 hp hb e1 hs1 => ?_
  repeat' (first | (show Gd _ _ _; first | with_reducible refine Gd.t ?_ | with_reducible refine Gd.f ?_ | with_reducible refine Gd.dec (fun _ => ?_) (fun _ => ?_) | with_reducible refine Gd.beq (fun _ => ?_) (fun _ => ?_) | with_reducible refine Gd.bne (fun _ => ?_) (fun _ => ?_) | with_reducible refine Gd.not ?_ | refine Gd.t ?_ | refine Gd.f ?_ | with_reducible refine Gd.var (fun _ => ?_) (fun _ => ?_)) | (show Sq _ _ _; refine Sq.mk ?_) | (show Ld1 _ _ _; first | (apply Ld1.blk; (focus ((repeat (first | assumption | (apply Blk.from; assumption))); done)); rfl) | (apply Ld1.rsF; (focus ((repeat (first | assumption | (apply RdS.from; assumption))); done)); assumption; rfl) | (apply Ld1.rs; (focus ((repeat (first | assumption | (apply RdS.from; assumption))); done)); assumption; rfl)) | (show Ld _ _ _ _; first | (apply Ld.blk; (focus ((repeat (first | assumption | (apply Blk.from; assumption))); done)); rfl) | (apply Ld.rs; (focus ((repeat (first | assumption | (apply RdS.from; assumption))); done)); assumption)) | (show Ix _ _ _ _ _; first | (apply Ix.rs; (focus ((repeat (first | assumption | (apply RdS.from; assumption))); done)); (first | with_reducible rfl | assumption); (first | assumption | omega)) | (apply Ix.arr; (focus ((repeat (first | assumption | (apply RdS.from; assumption))); done)); (first | assumption | (simp; done)); (first | with_reducible rfl | assumption); (first | assumption | omega))) | (show Al _ _ _ _; refine Al.mk (fun _ _ _ _ _ _ => ?_)) | (show St _ _ _ _; apply St.new; assumption; assumption; assumption; rfl; rfl; intro _ _ _ _))
  refine Sm.make T.ok (enc := ints) (z := 0) (n := f.code.length) rfl rfl rfl rfl rfl rfl rfl rfl Nat.zero_lt_one (Nat.le_trans (Nat.mul_le_mul_left _ hl2) (by decide)) (by omega) (fun pm w2 hpm hbm e2 => ?_)
  repeat' (first | (show Gd _ _ _; first | with_reducible refine Gd.t ?_ | with_reducible refine Gd.f ?_ | with_reducible refine Gd.dec (fun _ => ?_) (fun _ => ?_) | with_reducible refine Gd.beq (fun _ => ?_) (fun _ => ?_) | with_reducible refine Gd.bne (fun _ => ?_) (fun _ => ?_) | with_reducible refine Gd.not ?_ | refine Gd.t ?_ | refine Gd.f ?_ | with_reducible refine Gd.var (fun _ => ?_) (fun _ => ?_)) | (show Sq _ _ _; refine Sq.mk ?_) | (show Ld1 _ _ _; first | (apply Ld1.blk; (focus ((repeat (first | assumption | (apply Blk.from; assumption))); done)); rfl) | (apply Ld1.rsF; (focus ((repeat (first | assumption | (apply RdS.from; assumption))); done)); assumption; rfl) | (apply Ld1.rs; (focus ((repeat (first | assumption | (apply RdS.from; assumption))); done)); assumption; rfl)) | (show Ld _ _ _ _; first | (apply Ld.blk; (focus ((repeat (first | assumption | (apply Blk.from; assumption))); done)); rfl) | (apply Ld.rs; (focus ((repeat (first | assumption | (apply RdS.from; assumption))); done)); assumption)) | (show Ix _ _ _ _ _; first | (apply Ix.rs; (focus ((repeat (first | assumption | (apply RdS.from; assumption))); done)); (first | with_reducible rfl | assumption); (first | assumption | omega)) | (apply Ix.arr; (focus ((repeat (first | assumption | (apply RdS.from; assumption))); done)); (first | assumption | (simp; done)); (first | with_reducible rfl | assumption); (first | assumption | omega))) | (show Al _ _ _ _; refine Al.mk (fun _ _ _ _ _ _ => ?_)) | (show St _ _ _ _; apply St.new; assumption; assumption; assumption; rfl; rfl; intro _ _ _ _))
  refine Sm.lit T.ok (cs := [.int .i64 0]) rfl rfl rfl rfl rfl rfl rfl (fun p3 w3 hp3 hb3 e3 hs3 => ?_)
  repeat' (first | (show Gd _ _ _; first | with_reducible refine Gd.t ?_ | with_reducible refine Gd.f ?_ | with_reducible refine Gd.dec (fun _ => ?_) (fun _ => ?_) | with_reducible refine Gd.beq (fun _ => ?_) (fun _ => ?_) | with_reducible refine Gd.bne (fun _ => ?_) (fun _ => ?_) | with_reducible refine Gd.not ?_ | refine Gd.t ?_ | refine Gd.f ?_ | with_reducible refine Gd.var (fun _ => ?_) (fun _ => ?_)) | (show Sq _ _ _; refine Sq.mk ?_) | (show Ld1 _ _ _; first | (apply Ld1.blk; (focus ((repeat (first | assumption | (apply Blk.from; assumption))); done)); rfl) | (apply Ld1.rsF; (focus ((repeat (first | assumption | (apply RdS.from; assumption))); done)); assumption; rfl) | (apply Ld1.rs; (focus ((repeat (first | assumption | (apply RdS.from; assumption))); done)); assumption; rfl)) | (show Ld _ _ _ _; first | (apply Ld.blk; (focus ((repeat (first | assumption | (apply Blk.from; assumption))); done)); rfl) | (apply Ld.rs; (focus ((repeat (first | assumption | (apply RdS.from; assumption))); done)); assumption)) | (show Ix _ _ _ _ _; first | (apply Ix.rs; (focus ((repeat (first | assumption | (apply RdS.from; assumption))); done)); (first | with_reducible rfl | assumption); (first | assumption | omega)) | (apply Ix.arr; (focus ((repeat (first | assumption | (apply RdS.from; assumption))); done)); (first | assumption | (simp; done)); (first | with_reducible rfl | assumption); (first | assumption | omega))) | (show Al _ _ _ _; refine Al.mk (fun _ _ _ _ _ _ => ?_)) | (show St _ _ _ _; apply St.new; assumption; assumption; assumption; rfl; rfl; intro _ _ _ _))
  refine Sm.lit T.ok (cs := [.int .i64 1]) rfl rfl rfl rfl rfl rfl rfl (fun p4 w4 hp4 hb4 e4 hs4 => ?_)
  have hrm := rd_of_blk (hbm.ext (e3.trans e4)) (by simp; omega)
  refine Sq.mk ?_
  refine Ix.arr (i := 0) hrm (by simp) rfl (by simp; omega) ?_
  -- the first point is laid
  refine St.ints (i := 0) (hbm.ext (e3.trans e4)) (by simp; omega) fun w5 u5 hbm5 => ?_
  have hbne : p ≠ pm := by have := e1.size; omega
  have J0 : J f A c w p pm (metL [(0, 1)] f.code.length) (some ⟨p3, 0, none⟩) 1 (pl [(0, 1)]) (some ⟨p4, 0, none⟩) 1 (sl [(0, 1)]) w5 := by
    have z1 := e1.size; have z2 := e2.size; have z3 := e3.size; have z4 := e4.size
    have lt := hbm.lt
    refine ⟨Ext.upd (e1.trans (e2.trans (e3.trans e4))) u5 (by omega), (hb.ext (e2.trans (e3.trans e4))).upd u5 hbne, ?_, ?_, ?_, ?_, ?_, ?_, by omega⟩
    · have : metL [(0, 1)] f.code.length = (List.replicate f.code.length 0).set 0 1 := by
        apply List.ext_getElem?
        intro j
        rw [List.getElem?_set]
        simp only [metL, List.getElem?_map, List.length_replicate, List.getElem?_replicate]
        by_cases hj : j < f.code.length
        · rw [List.getElem?_range hj]
          by_cases e : 0 = j
          · subst e; simp [hj, mt]
          · have : j ≠ 0 := fun e' => e e'.symm
            simp [hj, e, mt, this]
        · have e0 : (List.range f.code.length)[j]? = none := List.getElem?_eq_none (by simp; omega)
          rw [e0, if_neg (by omega), if_neg hj]; rfl
      rw [this]; exact hbm5
    · exact (own_of_ints (l := [0]) ((hb3.ext e4).upd u5 (by omega)) (by omega) (by simp))
    · exact (own_of_ints (l := [1]) (hb4.upd u5 (by omega)) (by omega) (by simp))
    · simp [obk]; omega
    · simp [obk]; omega
    · simp [obk]; omega
  clear hbm5 u5 hb3 hb4 hrm hbm hb hs3 hs4 hs1
  repeat' (first | (show Gd _ _ _; first | with_reducible refine Gd.t ?_ | with_reducible refine Gd.f ?_ | with_reducible refine Gd.dec (fun _ => ?_) (fun _ => ?_) | with_reducible refine Gd.beq (fun _ => ?_) (fun _ => ?_) | with_reducible refine Gd.bne (fun _ => ?_) (fun _ => ?_) | with_reducible refine Gd.not ?_ | refine Gd.t ?_ | refine Gd.f ?_ | with_reducible refine Gd.var (fun _ => ?_) (fun _ => ?_)) | (show Sq _ _ _; refine Sq.mk ?_) | (show Ld1 _ _ _; first | (apply Ld1.blk; (focus ((repeat (first | assumption | (apply Blk.from; assumption))); done)); rfl) | (apply Ld1.rsF; (focus ((repeat (first | assumption | (apply RdS.from; assumption))); done)); assumption; rfl) | (apply Ld1.rs; (focus ((repeat (first | assumption | (apply RdS.from; assumption))); done)); assumption; rfl)) | (show Ld _ _ _ _; first | (apply Ld.blk; (focus ((repeat (first | assumption | (apply Blk.from; assumption))); done)); rfl) | (apply Ld.rs; (focus ((repeat (first | assumption | (apply RdS.from; assumption))); done)); assumption)) | (show Ix _ _ _ _ _; first | (apply Ix.rs; (focus ((repeat (first | assumption | (apply RdS.from; assumption))); done)); (first | with_reducible rfl | assumption); (first | assumption | omega)) | (apply Ix.arr; (focus ((repeat (first | assumption | (apply RdS.from; assumption))); done)); (first | assumption | (simp; done)); (first | with_reducible rfl | assumption); (first | assumption | omega))) | (show Al _ _ _ _; refine Al.mk (fun _ _ _ _ _ _ => ?_)) | (show St _ _ _ _; apply St.new; assumption; assumption; assumption; rfl; rfl; intro _ _ _ _))
  refine Lp.g0 T.ok (σ := Nat × List Pt × Option Addr × Nat × Option Addr × Nat) (fun s => [(8, .int .i64 (s.1 : Int)), (6, .slice s.2.2.1 s.2.1.length s.2.2.2.1), (7, .slice s.2.2.2.2.1 s.2.1.length s.2.2.2.2.2),
      (5, .slice (some ⟨pm, 0, none⟩) f.code.length f.code.length), (2, .pointer (some ⟨p, 0, none⟩)), (1, .int .i64 slot)])
    (fun s w' => s.1 ≤ s.2.1.length ∧ Srch f slot s.2.1 s.1 ∧ J f A c w p pm (metL s.2.1 f.code.length) s.2.2.1 s.2.2.2.1 (pl s.2.1) s.2.2.2.2.1 s.2.2.2.2.2 (sl s.2.1) w') (fun s _ => 3 * f.code.length - s.1)
    (0, [(0, 1)], some ⟨p3, 0, none⟩, 1, some ⟨p4, 0, none⟩, 1) rfl ⟨rfl, rfl, rfl, rfl, rfl, rfl, trivial⟩ ⟨by simp, Srch.begin hl1, J0⟩ ?_
  clear J0
  rintro ⟨k, q, Ap, cp, As, cs⟩ w6 ⟨hk, hq, hJ⟩
  simp only at hk hq hJ ⊢
  have hcE := hJ.ext
  have hA6 := RdS.from hJ.ext hA
  have hb := hJ.fb
  have hrp := hJ.op.rd
  have hrs := hJ.os.rd
  have hrm := rd_of_blk hJ.met (by rw [metL_len]; omega)
  have hpll := pl_len q
  have hsll := sl_len q
  by_cases hlt : k < q.length
  · obtain ⟨x, hx⟩ : ∃ x, q[k]? = some x := ⟨q[k], List.getElem?_eq_getElem hlt⟩
    obtain ⟨hx1, hx2⟩ := hq.inr x (List.mem_of_getElem? hx)
    obtain ⟨ci, hci⟩ : ∃ ci, f.code[x.1]? = some ci := ⟨f.code[x.1], List.getElem?_eq_getElem hx1⟩
    have hpx : (pl q)[k]? = some (x.1 : Int) := by simp [pl, hx]
    have hsx : (sl q)[k]? = some x.2 := by simp [sl, hx]
    repeat' (first | ((show Gd _ _ _; first | with_reducible refine Gd.t ?_ | with_reducible refine Gd.f ?_ | with_reducible refine Gd.dec (fun _ => ?_) (fun _ => ?_) | with_reducible refine Gd.beq (fun _ => ?_) (fun _ => ?_) | with_reducible refine Gd.bne (fun _ => ?_) (fun _ => ?_) | with_reducible refine Gd.not ?_ | refine Gd.t ?_ | refine Gd.f ?_ | with_reducible refine Gd.var (fun _ => ?_) (fun _ => ?_)) <;> first | (exfalso; omega) | skip) | (first | (show Gd _ _ _; first | with_reducible refine Gd.t ?_ | with_reducible refine Gd.f ?_ | with_reducible refine Gd.dec (fun _ => ?_) (fun _ => ?_) | with_reducible refine Gd.beq (fun _ => ?_) (fun _ => ?_) | with_reducible refine Gd.bne (fun _ => ?_) (fun _ => ?_) | with_reducible refine Gd.not ?_ | refine Gd.t ?_ | refine Gd.f ?_ | with_reducible refine Gd.var (fun _ => ?_) (fun _ => ?_)) | (show Sq _ _ _; refine Sq.mk ?_) | (show Ld1 _ _ _; first | (apply Ld1.blk; (focus ((repeat (first | assumption | (apply Blk.from; assumption))); done)); rfl) | (apply Ld1.rsF; (focus ((repeat (first | assumption | (apply RdS.from; assumption))); done)); assumption; rfl) | (apply Ld1.rs; (focus ((repeat (first | assumption | (apply RdS.from; assumption))); done)); assumption; rfl)) | (show Ld _ _ _ _; first | (apply Ld.blk; (focus ((repeat (first | assumption | (apply Blk.from; assumption))); done)); rfl) | (apply Ld.rs; (focus ((repeat (first | assumption | (apply RdS.from; assumption))); done)); assumption)) | (show Ix _ _ _ _ _; first | (apply Ix.rs; (focus ((repeat (first | assumption | (apply RdS.from; assumption))); done)); (first | with_reducible rfl | assumption); (first | assumption | omega)) | (apply Ix.arr; (focus ((repeat (first | assumption | (apply RdS.from; assumption))); done)); (first | assumption | (simp; done)); (first | with_reducible rfl | assumption); (first | assumption | omega))) | (show Al _ _ _ _; refine Al.mk (fun _ _ _ _ _ _ => ?_)) | (show St _ _ _ _; apply St.new; assumption; assumption; assumption; rfl; rfl; intro _ _ _ _)))
    -- the instruction
    refine Dr.al T.ok mixed 8 (by kernel_rfl) rfl rfl rfl rfl rfl rfl rfl rfl (fun W hW => ?_)
    repeat' (first | (show Gd _ _ _; first | with_reducible refine Gd.t ?_ | with_reducible refine Gd.f ?_ | with_reducible refine Gd.dec (fun _ => ?_) (fun _ => ?_) | with_reducible refine Gd.beq (fun _ => ?_) (fun _ => ?_) | with_reducible refine Gd.bne (fun _ => ?_) (fun _ => ?_) | with_reducible refine Gd.not ?_ | refine Gd.t ?_ | refine Gd.f ?_ | with_reducible refine Gd.var (fun _ => ?_) (fun _ => ?_)) | (show QLd1 _ _ _; first | (apply QLd1.blk hW; (focus ((repeat (first | assumption | (apply Blk.from; assumption))); done)); rfl) | (apply QLd1.rsF hW; (focus ((repeat (first | assumption | (apply RdS.from; assumption))); done)); assumption; rfl) | (apply QLd1.rs hW; (focus ((repeat (first | assumption | (apply RdS.from; assumption))); done)); assumption; rfl)) | (show QLd _ _ _ _; first | (apply QLd.blk hW; (focus ((repeat (first | assumption | (apply Blk.from; assumption))); done)); rfl) | (apply QLd.rs hW; (focus ((repeat (first | assumption | (apply RdS.from; assumption))); done)); assumption)) | (show Ix _ _ _ _ _; first | (apply Ix.rs; (focus ((repeat (first | assumption | (apply RdS.from; assumption))); done)); (first | with_reducible rfl | assumption); (first | assumption | omega)) | (apply Ix.arr; (focus ((repeat (first | assumption | (apply RdS.from; assumption))); done)); (first | assumption | (simp; done)); (first | with_reducible rfl | assumption); (first | assumption | omega))))
    intro p9 w7 hp9 e7 hb9
    refine St.upd hb9 rfl rfl (fun w8 u8 hb8 => ?_)
    have e8 : Ext w6 w8 := Ext.upd e7 u8 hp9
    clear hb9 u8 e7
    refine Sq.mk ?_
    (show Dr _ _ _ _ _ _ _; refine Dr.quiet T.ok mixed (by kernel_rfl) (fun W hW => ?_))
    repeat' (first | (first | (show Gd _ _ _; first | with_reducible refine Gd.t ?_ | with_reducible refine Gd.f ?_ | with_reducible refine Gd.dec (fun _ => ?_) (fun _ => ?_) | with_reducible refine Gd.beq (fun _ => ?_) (fun _ => ?_) | with_reducible refine Gd.bne (fun _ => ?_) (fun _ => ?_) | with_reducible refine Gd.not ?_ | refine Gd.t ?_ | refine Gd.f ?_ | with_reducible refine Gd.var (fun _ => ?_) (fun _ => ?_)) | (show QLd1 _ _ _; first | (apply QLd1.blk hW; (focus ((repeat (first | assumption | (apply Blk.from; assumption))); done)); rfl) | (apply QLd1.rsF hW; (focus ((repeat (first | assumption | (apply RdS.from; assumption))); done)); assumption; rfl) | (apply QLd1.rs hW; (focus ((repeat (first | assumption | (apply RdS.from; assumption))); done)); assumption; rfl)) | (show QLd _ _ _ _; first | (apply QLd.blk hW; (focus ((repeat (first | assumption | (apply Blk.from; assumption))); done)); rfl) | (apply QLd.rs hW; (focus ((repeat (first | assumption | (apply RdS.from; assumption))); done)); assumption)) | (show Ix _ _ _ _ _; first | (apply Ix.rs; (focus ((repeat (first | assumption | (apply RdS.from; assumption))); done)); (first | with_reducible rfl | assumption); (first | assumption | omega)) | (apply Ix.arr; (focus ((repeat (first | assumption | (apply RdS.from; assumption))); done)); (first | assumption | (simp; done)); (first | with_reducible rfl | assumption); (first | assumption | omega)))) | (show QCl _ _ _ _ _ _; refine QCl.mk hW (fun _ _ => Cl.mk (After_c ci slot x.2 _) (fun _ _ h => h)) ?_))
    intro w9 e9
    refine Sq.mk ?_
    clear hW
    refine Dr.tail T.ok mixed 5 (by kernel_rfl) fun W w10 hW e10 hs10 => ?_
    repeat' (first | (show Gd _ _ _; first | with_reducible refine Gd.t ?_ | with_reducible refine Gd.f ?_ | with_reducible refine Gd.dec (fun _ => ?_) (fun _ => ?_) | with_reducible refine Gd.beq (fun _ => ?_) (fun _ => ?_) | with_reducible refine Gd.bne (fun _ => ?_) (fun _ => ?_) | with_reducible refine Gd.not ?_ | refine Gd.t ?_ | refine Gd.f ?_ | with_reducible refine Gd.var (fun _ => ?_) (fun _ => ?_)) | (show QLd1 _ _ _; first | (apply QLd1.blk hW; (focus ((repeat (first | assumption | (apply Blk.from; assumption))); done)); rfl) | (apply QLd1.rsF hW; (focus ((repeat (first | assumption | (apply RdS.from; assumption))); done)); assumption; rfl) | (apply QLd1.rs hW; (focus ((repeat (first | assumption | (apply RdS.from; assumption))); done)); assumption; rfl)) | (show QLd _ _ _ _; first | (apply QLd.blk hW; (focus ((repeat (first | assumption | (apply Blk.from; assumption))); done)); rfl) | (apply QLd.rs hW; (focus ((repeat (first | assumption | (apply RdS.from; assumption))); done)); assumption)) | (show Ix _ _ _ _ _; first | (apply Ix.rs; (focus ((repeat (first | assumption | (apply RdS.from; assumption))); done)); (first | with_reducible rfl | assumption); (first | assumption | omega)) | (apply Ix.arr; (focus ((repeat (first | assumption | (apply RdS.from; assumption))); done)); (first | assumption | (simp; done)); (first | with_reducible rfl | assumption); (first | assumption | omega))))
    (show Cl _ _ _ _ _ _; refine Cl.mk (Nexts_c f A c x.1 ci _ (by (focus ((repeat (first | assumption | (apply RdS.from; assumption))); done))) hci hl2) ?_)
    rintro _ w11 ⟨An, rfl, hrn, e11, hfr⟩
    have e611 : Ext w6 w11 := e8.trans (e9.trans (e10.trans e11))
    have hJ11 := hJ.mv e611
    have hAn : ∀ b, obk An = some b → w6.heap.size ≤ b := fun b hb => Nat.le_trans (e8.trans (e9.trans e10)).size (hfr b hb)
    have hAnm : obk An ≠ some pm := fun e => by have := hAn _ e; have := hJ.met.lt; omega
    have hAnp : obk An = none ∨ obk An ≠ obk Ap := by
      rcases hob : obk An with _ | b
      · exact .inl rfl
      · exact .inr fun e => by have := hAn _ hob; have := (hJ.op.obk_lt b e.symm).1; omega
    have hAns : obk An = none ∨ obk An ≠ obk As := by
      rcases hob : obk An with _ | b
      · exact .inl rfl
      · exact .inr fun e => by have := hAn _ hob; have := (hJ.os.obk_lt b e.symm).1; omega
    clear e611 e8 e9 e10 e11 hfr hW hb8 hp9 hs10 hb hrp hrs hrm hA6 hcE hJ hpx hsx hAn
    have hrange := next_range hS hci
    have hnl : (nextsS x.1 ci).length ≤ 2 := by unfold nextsS; (repeat' split) <;> simp
    have hokx := okS_after (c := ci) (slot := slot) hx2
    have hsucc : succs f slot x = (nextsS x.1 ci).map fun n => (n.toNat, afterS ci slot x.2) := by simp [succs, hci]
    repeat' (first | (show Gd _ _ _; first | with_reducible refine Gd.t ?_ | with_reducible refine Gd.f ?_ | with_reducible refine Gd.dec (fun _ => ?_) (fun _ => ?_) | with_reducible refine Gd.beq (fun _ => ?_) (fun _ => ?_) | with_reducible refine Gd.bne (fun _ => ?_) (fun _ => ?_) | with_reducible refine Gd.not ?_ | refine Gd.t ?_ | refine Gd.f ?_ | with_reducible refine Gd.var (fun _ => ?_) (fun _ => ?_)) | (show Sq _ _ _; refine Sq.mk ?_) | (show Ld1 _ _ _; first | (apply Ld1.blk; (focus ((repeat (first | assumption | (apply Blk.from; assumption))); done)); rfl) | (apply Ld1.rsF; (focus ((repeat (first | assumption | (apply RdS.from; assumption))); done)); assumption; rfl) | (apply Ld1.rs; (focus ((repeat (first | assumption | (apply RdS.from; assumption))); done)); assumption; rfl)) | (show Ld _ _ _ _; first | (apply Ld.blk; (focus ((repeat (first | assumption | (apply Blk.from; assumption))); done)); rfl) | (apply Ld.rs; (focus ((repeat (first | assumption | (apply RdS.from; assumption))); done)); assumption)) | (show Ix _ _ _ _ _; first | (apply Ix.rs; (focus ((repeat (first | assumption | (apply RdS.from; assumption))); done)); (first | with_reducible rfl | assumption); (first | assumption | omega)) | (apply Ix.arr; (focus ((repeat (first | assumption | (apply RdS.from; assumption))); done)); (first | assumption | (simp; done)); (first | with_reducible rfl | assumption); (first | assumption | omega))) | (show Al _ _ _ _; refine Al.mk (fun _ _ _ _ _ _ => ?_)) | (show St _ _ _ _; apply St.new; assumption; assumption; assumption; rfl; rfl; intro _ _ _ _))
    refine Lp.g0 T.ok (σ := Nat × List Pt × Option Addr × Nat × Option Addr × Nat) (fun s => [(12, .int .i64 (s.1 : Int)), (6, .slice s.2.2.1 s.2.1.length s.2.2.2.1), (7, .slice s.2.2.2.2.1 s.2.1.length s.2.2.2.2.2),
        (11, .slice An (nextsS x.1 ci).length (nextsS x.1 ci).length), (10, .int .i64 (afterS ci slot x.2)), (8, .int .i64 (k : Int)), (5, .slice (some ⟨pm, 0, none⟩) f.code.length f.code.length), (2, .pointer (some ⟨p, 0, none⟩)), (1, .int .i64 slot)])
      (fun s w' => s.1 ≤ (nextsS x.1 ci).length ∧ Srch f slot s.2.1 k ∧ s.2.1[k]? = some x ∧ (∀ j' n, j' < s.1 → (nextsS x.1 ci)[j']? = some n → (n.toNat, afterS ci slot x.2) ∈ s.2.1) ∧
        J f A c w p pm (metL s.2.1 f.code.length) s.2.2.1 s.2.2.2.1 (pl s.2.1) s.2.2.2.2.1 s.2.2.2.2.2 (sl s.2.1) w' ∧ RdS ints 1 w' An (nextsS x.1 ci) ∧ (obk An = none ∨ obk An ≠ obk s.2.2.1) ∧ (obk An = none ∨ obk An ≠ obk s.2.2.2.2.1))
      (fun s _ => (nextsS x.1 ci).length - s.1)
      (0, q, Ap, cp, As, cs) rfl ⟨rfl, rfl, rfl, rfl, rfl, rfl, rfl, rfl, rfl, trivial⟩ ⟨by simp, hq, hx, fun j' n hj => by omega, hJ11, hrn, hAnp, hAns⟩ ?_
    clear hJ11 hrn hAnp hAns hq hx hlt hk hpll hsll
    rintro ⟨j, q', Bp, dp, Bs, ds⟩ w12 ⟨hj, hq, hx, hd, hJ, hrn, hAnp, hAns⟩
    simp only at hj hq hx hd hJ hrn hAnp hAns ⊢
    have hml := metL_len q' f.code.length
    have hpll := pl_len q'
    have hsll := sl_len q'
    have hqlen := hq.len
    by_cases hjl : j < (nextsS x.1 ci).length
    · obtain ⟨n0, hn0⟩ : ∃ n0, (nextsS x.1 ci)[j]? = some n0 := ⟨_, List.getElem?_eq_getElem hjl⟩
      obtain ⟨hr0, hr1⟩ := hrange n0 (List.mem_of_getElem? hn0)
      obtain ⟨i, rfl⟩ : ∃ i : Nat, n0 = (i : Int) := ⟨n0.toNat, by omega⟩
      have hi : i < f.code.length := by omega
      have hmi : (metL q' f.code.length)[i]? = some (mt q' i) := by simp [metL, hi]
      have hrm := rd_of_blk hJ.met (by rw [metL_len]; omega)
      have him : i < (metL q' f.code.length).length := by rw [metL_len]; exact hi
      have hsy : ((i : Nat), afterS ci slot x.2) ∈ succs f slot x := by
        rw [hsucc]; exact List.mem_map.2 ⟨(i : Int), List.mem_of_getElem? hn0, by simp⟩
      have hmr := mt_range q' i
      repeat' (first | ((show Gd _ _ _; first | with_reducible refine Gd.t ?_ | with_reducible refine Gd.f ?_ | with_reducible refine Gd.dec (fun _ => ?_) (fun _ => ?_) | with_reducible refine Gd.beq (fun _ => ?_) (fun _ => ?_) | with_reducible refine Gd.bne (fun _ => ?_) (fun _ => ?_) | with_reducible refine Gd.not ?_ | refine Gd.t ?_ | refine Gd.f ?_ | with_reducible refine Gd.var (fun _ => ?_) (fun _ => ?_)) <;> first | (exfalso; omega) | skip) | (first | (show Gd _ _ _; first | with_reducible refine Gd.t ?_ | with_reducible refine Gd.f ?_ | with_reducible refine Gd.dec (fun _ => ?_) (fun _ => ?_) | with_reducible refine Gd.beq (fun _ => ?_) (fun _ => ?_) | with_reducible refine Gd.bne (fun _ => ?_) (fun _ => ?_) | with_reducible refine Gd.not ?_ | refine Gd.t ?_ | refine Gd.f ?_ | with_reducible refine Gd.var (fun _ => ?_) (fun _ => ?_)) | (show Sq _ _ _; refine Sq.mk ?_) | (show Ld1 _ _ _; first | (apply Ld1.blk; (focus ((repeat (first | assumption | (apply Blk.from; assumption))); done)); rfl) | (apply Ld1.rsF; (focus ((repeat (first | assumption | (apply RdS.from; assumption))); done)); assumption; rfl) | (apply Ld1.rs; (focus ((repeat (first | assumption | (apply RdS.from; assumption))); done)); assumption; rfl)) | (show Ld _ _ _ _; first | (apply Ld.blk; (focus ((repeat (first | assumption | (apply Blk.from; assumption))); done)); rfl) | (apply Ld.rs; (focus ((repeat (first | assumption | (apply RdS.from; assumption))); done)); assumption)) | (show Ix _ _ _ _ _; first | (apply Ix.rs; (focus ((repeat (first | assumption | (apply RdS.from; assumption))); done)); (first | with_reducible rfl | assumption); (first | assumption | omega)) | (apply Ix.arr; (focus ((repeat (first | assumption | (apply RdS.from; assumption))); done)); (first | assumption | (simp; done)); (first | with_reducible rfl | assumption); (first | assumption | omega))) | (show Al _ _ _ _; refine Al.mk (fun _ _ _ _ _ _ => ?_)) | (show St _ _ _ _; apply St.new; assumption; assumption; assumption; rfl; rfl; intro _ _ _ _)))
      · -- a point that was not met
        rename_i hz
        have hz : bitand (mt q' i) (afterS ci slot x.2) = 0 := hz
        have hnew := (mt_and0 hokx).1 hz
        have hwr : IntKind.i64.wrap (mt q' i + afterS ci slot x.2) = mt q' i + afterS ci slot x.2 := w64 rfl (by rcases hokx with h | h | h <;> omega) (by rcases hokx with h | h | h <;> omega)
        have hset := metL_set (N := f.code.length) hokx hnew hi
        have hq2 := hq.snoc hx hsy hi hokx hnew
        have hkl := (List.getElem?_eq_some_iff.1 hx).1
        refine Dr.tail T.ok mixed 15 (by kernel_rfl) fun W w13 hW e13 _ => ?_
        repeat' (first | (show Gd _ _ _; first | with_reducible refine Gd.t ?_ | with_reducible refine Gd.f ?_ | with_reducible refine Gd.dec (fun _ => ?_) (fun _ => ?_) | with_reducible refine Gd.beq (fun _ => ?_) (fun _ => ?_) | with_reducible refine Gd.bne (fun _ => ?_) (fun _ => ?_) | with_reducible refine Gd.not ?_ | refine Gd.t ?_ | refine Gd.f ?_ | with_reducible refine Gd.var (fun _ => ?_) (fun _ => ?_)) | (show QLd1 _ _ _; first | (apply QLd1.blk hW; (focus ((repeat (first | assumption | (apply Blk.from; assumption))); done)); rfl) | (apply QLd1.rsF hW; (focus ((repeat (first | assumption | (apply RdS.from; assumption))); done)); assumption; rfl) | (apply QLd1.rs hW; (focus ((repeat (first | assumption | (apply RdS.from; assumption))); done)); assumption; rfl)) | (show QLd _ _ _ _; first | (apply QLd.blk hW; (focus ((repeat (first | assumption | (apply Blk.from; assumption))); done)); rfl) | (apply QLd.rs hW; (focus ((repeat (first | assumption | (apply RdS.from; assumption))); done)); assumption)) | (show Ix _ _ _ _ _; first | (apply Ix.rs; (focus ((repeat (first | assumption | (apply RdS.from; assumption))); done)); (first | with_reducible rfl | assumption); (first | assumption | omega)) | (apply Ix.arr; (focus ((repeat (first | assumption | (apply RdS.from; assumption))); done)); (first | assumption | (simp; done)); (first | with_reducible rfl | assumption); (first | assumption | omega))))
        refine St.ints (hJ.met.ext e13) him fun w14 u14 hm14 => ?_
        rw [hwr, hset] at hm14
        have hJ14 := (hJ.mv e13).set u14 hm14
        have hrn14 := (RdS.from e13 hrn).upd u14 hAnm
        clear hW e13 u14 hm14 hJ hrn hrm hml hpll hsll
        repeat' (first | (show Gd _ _ _; first | with_reducible refine Gd.t ?_ | with_reducible refine Gd.f ?_ | with_reducible refine Gd.dec (fun _ => ?_) (fun _ => ?_) | with_reducible refine Gd.beq (fun _ => ?_) (fun _ => ?_) | with_reducible refine Gd.bne (fun _ => ?_) (fun _ => ?_) | with_reducible refine Gd.not ?_ | refine Gd.t ?_ | refine Gd.f ?_ | with_reducible refine Gd.var (fun _ => ?_) (fun _ => ?_)) | (show Sq _ _ _; refine Sq.mk ?_) | (show Ld1 _ _ _; first | (apply Ld1.blk; (focus ((repeat (first | assumption | (apply Blk.from; assumption))); done)); rfl) | (apply Ld1.rsF; (focus ((repeat (first | assumption | (apply RdS.from; assumption))); done)); assumption; rfl) | (apply Ld1.rs; (focus ((repeat (first | assumption | (apply RdS.from; assumption))); done)); assumption; rfl)) | (show Ld _ _ _ _; first | (apply Ld.blk; (focus ((repeat (first | assumption | (apply Blk.from; assumption))); done)); rfl) | (apply Ld.rs; (focus ((repeat (first | assumption | (apply RdS.from; assumption))); done)); assumption)) | (show Ix _ _ _ _ _; first | (apply Ix.rs; (focus ((repeat (first | assumption | (apply RdS.from; assumption))); done)); (first | with_reducible rfl | assumption); (first | assumption | omega)) | (apply Ix.arr; (focus ((repeat (first | assumption | (apply RdS.from; assumption))); done)); (first | assumption | (simp; done)); (first | with_reducible rfl | assumption); (first | assumption | omega))) | (show Al _ _ _ _; refine Al.mk (fun _ _ _ _ _ _ => ?_)) | (show St _ _ _ _; apply St.new; assumption; assumption; assumption; rfl; rfl; intro _ _ _ _))
        refine Sm.lit T.ok (cs := [.int .i64 (i : Int)]) rfl rfl rfl rfl rfl rfl rfl (fun p15 w15 hp15 hb15 e15 _ => ?_)
        have hr15 := rd_of_blk (l := [(i : Int)]) hb15 (by simp)
        refine Sm.app (enc := ints) (m := [(i : Int)]) T.ok rfl rfl rfl rfl rfl Nat.zero_lt_one (hJ14.op.ext e15) (pl_len q').symm hr15 rfl (fun _ _ => rfl) (fun y _ v hv => by simp [ints] at hv; subst hv; rfl) ?_ ?_ (hJ14.mv e15).ext.size (fun B' d' w16 ho16 g16 hb16 => ?_)
        · rw [pl_len]; show (q'.length + 1) * 8 ≤ _; omega
        · rw [pl_len]; show q'.length + 1 ≤ _; omega
        have hJ16 := (hJ14.mv e15).appP ho16 g16 hb16
        have hrn16 := (RdS.from e15 hrn14).grow g16 hAnp
        have hne : nextsS x.1 ci ≠ [] := fun e => by rw [e] at hjl; simp at hjl
        have hrns := obk_new hAnp hb16 (fun b hb => Nat.lt_of_lt_of_le (hrn14.lt hne b hb) e15.size)
        clear hJ14 e15 hb15 hr15 g16 ho16 hrn14 hb16
        repeat' (first | (show Gd _ _ _; first | with_reducible refine Gd.t ?_ | with_reducible refine Gd.f ?_ | with_reducible refine Gd.dec (fun _ => ?_) (fun _ => ?_) | with_reducible refine Gd.beq (fun _ => ?_) (fun _ => ?_) | with_reducible refine Gd.bne (fun _ => ?_) (fun _ => ?_) | with_reducible refine Gd.not ?_ | refine Gd.t ?_ | refine Gd.f ?_ | with_reducible refine Gd.var (fun _ => ?_) (fun _ => ?_)) | (show Sq _ _ _; refine Sq.mk ?_) | (show Ld1 _ _ _; first | (apply Ld1.blk; (focus ((repeat (first | assumption | (apply Blk.from; assumption))); done)); rfl) | (apply Ld1.rsF; (focus ((repeat (first | assumption | (apply RdS.from; assumption))); done)); assumption; rfl) | (apply Ld1.rs; (focus ((repeat (first | assumption | (apply RdS.from; assumption))); done)); assumption; rfl)) | (show Ld _ _ _ _; first | (apply Ld.blk; (focus ((repeat (first | assumption | (apply Blk.from; assumption))); done)); rfl) | (apply Ld.rs; (focus ((repeat (first | assumption | (apply RdS.from; assumption))); done)); assumption)) | (show Ix _ _ _ _ _; first | (apply Ix.rs; (focus ((repeat (first | assumption | (apply RdS.from; assumption))); done)); (first | with_reducible rfl | assumption); (first | assumption | omega)) | (apply Ix.arr; (focus ((repeat (first | assumption | (apply RdS.from; assumption))); done)); (first | assumption | (simp; done)); (first | with_reducible rfl | assumption); (first | assumption | omega))) | (show Al _ _ _ _; refine Al.mk (fun _ _ _ _ _ _ => ?_)) | (show St _ _ _ _; apply St.new; assumption; assumption; assumption; rfl; rfl; intro _ _ _ _))
        refine Sm.lit T.ok (cs := [.int .i64 (afterS ci slot x.2)]) rfl rfl rfl rfl rfl rfl rfl (fun p17 w17 hp17 hb17 e17 _ => ?_)
        have hr17 := rd_of_blk (l := [afterS ci slot x.2]) hb17 (by simp)
        refine Sm.app (enc := ints) (m := [afterS ci slot x.2]) T.ok rfl rfl rfl rfl rfl Nat.zero_lt_one (hJ16.os.ext e17) (sl_len q').symm hr17 rfl (fun _ _ => rfl) (fun y _ v hv => by simp [ints] at hv; subst hv; rfl) ?_ ?_ (hJ16.mv e17).ext.size (fun B2 d2 w18 ho18 g18 hb18 => ?_)
        · rw [sl_len]; show (q'.length + 1) * 8 ≤ _; omega
        · rw [sl_len]; show q'.length + 1 ≤ _; omega
        have hJ18 := (hJ16.mv e17).appS ho18 g18 hb18
        have hrn18 := (RdS.from e17 hrn16).grow g18 hAns
        have e1 : pl q' ++ [(i : Int)] = pl (q' ++ [(i, afterS ci slot x.2)]) := by simp [pl]
        have e2 : sl q' ++ [afterS ci slot x.2] = sl (q' ++ [(i, afterS ci slot x.2)]) := by simp [sl]
        rw [e1, e2] at hJ18
        refine ⟨(j + 1, q' ++ [(i, afterS ci slot x.2)], B', d', B2, d2), ⟨at_int (m := ((j + 1 : Nat) : Int)) rfl (w64 (by simp) (by omega) (by omega)), at_val rfl (by simp [pl]), at_val rfl (by simp [sl]), rfl, rfl, rfl, rfl, rfl, rfl, trivial⟩, rfl,
          ⟨by simp; omega, hq2, ?_, fun j' n hj' hn => ?_, hJ18, hrn18, hrns, ?_⟩, by simp; omega⟩
        · simp only; rw [List.getElem?_append_left hkl]; exact hx
        · rcases Nat.lt_or_ge j' j with h | h
          · exact List.mem_append_left _ (hd j' n h hn)
          · have : j' = j := by simp at hj'; omega
            subst this
            rw [hn0] at hn; simp at hn; subst hn; simp
        · exact obk_new hAns hb18 (fun b hb => Nat.lt_of_lt_of_le (hrn16.lt hne b hb) e17.size)
      · -- one that was
        rename_i hz
        have hold : (i, afterS ci slot x.2) ∈ q' := by
          by_cases h : (i, afterS ci slot x.2) ∈ q'
          · exact h
          · exact absurd ((mt_and0 hokx).2 h) hz
        refine ⟨(j + 1, q', Bp, dp, Bs, ds), ⟨at_int (m := ((j + 1 : Nat) : Int)) rfl (w64 (by simp) (by omega) (by omega)), rfl, rfl, rfl, rfl, rfl, rfl, rfl, rfl, trivial⟩, rfl, ⟨by simp; omega, hq, hx, fun j' n hj' hn => ?_, hJ, hrn, hAnp, hAns⟩, by simp; omega⟩
        rcases Nat.lt_or_ge j' j with h | h
        · exact hd j' n h hn
        · have : j' = j := by simp at hj'; omega
          subst this
          rw [hn0] at hn; simp at hn; subst hn; simpa using hold
    · -- the inner loop is through
      have hj : j = (nextsS x.1 ci).length := by omega
      have hkl := (List.getElem?_eq_some_iff.1 hx).1
      have hq2 : Srch f slot q' (k + 1) := hq.next hx (fun y hy => by
        rw [hsucc] at hy
        obtain ⟨n, hn, rfl⟩ := List.mem_map.1 hy
        obtain ⟨j', hj'⟩ := List.getElem?_of_mem hn
        exact hd j' n (by rw [hj]; exact (List.getElem?_eq_some_iff.1 hj').1) hj')
      repeat' (first | ((show Gd _ _ _; first | with_reducible refine Gd.t ?_ | with_reducible refine Gd.f ?_ | with_reducible refine Gd.dec (fun _ => ?_) (fun _ => ?_) | with_reducible refine Gd.beq (fun _ => ?_) (fun _ => ?_) | with_reducible refine Gd.bne (fun _ => ?_) (fun _ => ?_) | with_reducible refine Gd.not ?_ | refine Gd.t ?_ | refine Gd.f ?_ | with_reducible refine Gd.var (fun _ => ?_) (fun _ => ?_)) <;> first | (exfalso; omega) | skip) | (first | (show Gd _ _ _; first | with_reducible refine Gd.t ?_ | with_reducible refine Gd.f ?_ | with_reducible refine Gd.dec (fun _ => ?_) (fun _ => ?_) | with_reducible refine Gd.beq (fun _ => ?_) (fun _ => ?_) | with_reducible refine Gd.bne (fun _ => ?_) (fun _ => ?_) | with_reducible refine Gd.not ?_ | refine Gd.t ?_ | refine Gd.f ?_ | with_reducible refine Gd.var (fun _ => ?_) (fun _ => ?_)) | (show Sq _ _ _; refine Sq.mk ?_) | (show Ld1 _ _ _; first | (apply Ld1.blk; (focus ((repeat (first | assumption | (apply Blk.from; assumption))); done)); rfl) | (apply Ld1.rsF; (focus ((repeat (first | assumption | (apply RdS.from; assumption))); done)); assumption; rfl) | (apply Ld1.rs; (focus ((repeat (first | assumption | (apply RdS.from; assumption))); done)); assumption; rfl)) | (show Ld _ _ _ _; first | (apply Ld.blk; (focus ((repeat (first | assumption | (apply Blk.from; assumption))); done)); rfl) | (apply Ld.rs; (focus ((repeat (first | assumption | (apply RdS.from; assumption))); done)); assumption)) | (show Ix _ _ _ _ _; first | (apply Ix.rs; (focus ((repeat (first | assumption | (apply RdS.from; assumption))); done)); (first | with_reducible rfl | assumption); (first | assumption | omega)) | (apply Ix.arr; (focus ((repeat (first | assumption | (apply RdS.from; assumption))); done)); (first | assumption | (simp; done)); (first | with_reducible rfl | assumption); (first | assumption | omega))) | (show Al _ _ _ _; refine Al.mk (fun _ _ _ _ _ _ => ?_)) | (show St _ _ _ _; apply St.new; assumption; assumption; assumption; rfl; rfl; intro _ _ _ _)))
      refine ⟨(k + 1, q', Bp, dp, Bs, ds), ⟨at_int (m := ((k + 1 : Nat) : Int)) rfl (w64 (by simp) (by omega) (by omega)), rfl, rfl, rfl, rfl, rfl, trivial⟩, rfl, ⟨by simp; omega, hq2, hJ⟩, by simp; omega⟩
  · -- the outer loop is through
    have hk : k = q.length := by omega
    subst hk
    repeat' (first | ((show Gd _ _ _; first | with_reducible refine Gd.t ?_ | with_reducible refine Gd.f ?_ | with_reducible refine Gd.dec (fun _ => ?_) (fun _ => ?_) | with_reducible refine Gd.beq (fun _ => ?_) (fun _ => ?_) | with_reducible refine Gd.bne (fun _ => ?_) (fun _ => ?_) | with_reducible refine Gd.not ?_ | refine Gd.t ?_ | refine Gd.f ?_ | with_reducible refine Gd.var (fun _ => ?_) (fun _ => ?_)) <;> first | (exfalso; omega) | skip) | (first | (show Gd _ _ _; first | with_reducible refine Gd.t ?_ | with_reducible refine Gd.f ?_ | with_reducible refine Gd.dec (fun _ => ?_) (fun _ => ?_) | with_reducible refine Gd.beq (fun _ => ?_) (fun _ => ?_) | with_reducible refine Gd.bne (fun _ => ?_) (fun _ => ?_) | with_reducible refine Gd.not ?_ | refine Gd.t ?_ | refine Gd.f ?_ | with_reducible refine Gd.var (fun _ => ?_) (fun _ => ?_)) | (show Sq _ _ _; refine Sq.mk ?_) | (show Ld1 _ _ _; first | (apply Ld1.blk; (focus ((repeat (first | assumption | (apply Blk.from; assumption))); done)); rfl) | (apply Ld1.rsF; (focus ((repeat (first | assumption | (apply RdS.from; assumption))); done)); assumption; rfl) | (apply Ld1.rs; (focus ((repeat (first | assumption | (apply RdS.from; assumption))); done)); assumption; rfl)) | (show Ld _ _ _ _; first | (apply Ld.blk; (focus ((repeat (first | assumption | (apply Blk.from; assumption))); done)); rfl) | (apply Ld.rs; (focus ((repeat (first | assumption | (apply RdS.from; assumption))); done)); assumption)) | (show Ix _ _ _ _ _; first | (apply Ix.rs; (focus ((repeat (first | assumption | (apply RdS.from; assumption))); done)); (first | with_reducible rfl | assumption); (first | assumption | omega)) | (apply Ix.arr; (focus ((repeat (first | assumption | (apply RdS.from; assumption))); done)); (first | assumption | (simp; done)); (first | with_reducible rfl | assumption); (first | assumption | omega))) | (show Al _ _ _ _; refine Al.mk (fun _ _ _ _ _ _ => ?_)) | (show St _ _ _ _; apply St.new; assumption; assumption; assumption; rfl; rfl; intro _ _ _ _)))
    have hm : metL q f.code.length = flwL f slot := by
      unfold metL flwL
      exact List.map_congr_left fun i _ => mt_flw hq i
    have hJm := hJ.met
    rw [hm] at hJm
    have hlen : (flwL f slot).length = f.code.length := by simp [flwL]
    exact ⟨pm, by rw [hlen]; rfl, hJ.pmlo, hJm, hJ.ext⟩
end Go.Proofs.YtbbadmlekagloaaDoor
namespace Go.Proofs.YtbbadmlekagloaaDoor
open Go Go.Sh
attribute [local irreducible] Blk Ext RdS
def vals (v : Value) : List Value := [v]
theorem flat_vals (l : List Value) : l.flatMap vals = l := by induction l with
  | nil => rfl
  | cons x r ih => simp [vals, List.flatMap_cons] at ih ⊢; exact ih
theorem rd_vals {p : Nat} {l : List Value} {w : World} {t : Nat} (h : Blk w p t l) (hl : l.length ≤ 140737488355328) : RdS vals 1 w (some ⟨p, 0, none⟩) l :=
  Own.rd (own_of_blk (e := t) (c := l.length) (l := l) (enc := vals) (sz := 1) h (Nat.zero_le _) (fun _ _ => rfl) (by rw [flat_vals]; omega) (Nat.le_refl _) (by simp only [maxLen]; omega) (by omega) (by rw [flat_vals]; exact List.take_of_length_le (by omega)))
theorem St.cell {p t i : Nat} {cs : List Value} {v : Value} {w : World} {k : World → Prop} (h : Blk w p t cs) (hi : i < cs.length) (h1 : v.oneCell' = true)
    (hk : ∀ w', Upd p w w' → Blk w' p t (cs.set i v) → k w') : St w ((gA (some ⟨p, 0, none⟩)).add (i * 1)) [v] k := by
  simp only [gA]
  rw [add_lit, Nat.zero_add, Nat.mul_one]
  refine St.upd h (Nat.ble_eq_true_of_le (by simp; omega)) (by simp [h1]) fun w' u hb => hk w' u ?_
  have : putL cs i [v] = cs.set i v := by
    unfold putL
    rw [List.set_eq_take_append_cons_drop, if_pos hi]
    simp
  rw [this] at hb
  exact hb
def rowV (m q : Nat) : Value := .slice (some ⟨q, 0, none⟩) m m
def rowL (m : Nat) (g : Nat → Int) : List Int := (List.range m).map g
@[simp] theorem rowL_len (m : Nat) (g : Nat → Int) : (rowL m g).length = m := by simp [rowL]
theorem rowL_at {m j : Nat} {g : Nat → Int} (h : j < m) : (rowL m g)[j]? = some (g j) := by simp [rowL, h]
def put1 (g : Nat → Int) (j : Nat) (v : Int) : Nat → Int := fun j' => if j' = j then v else g j'
def put2 (g : Nat → Nat → Int) (i j : Nat) (v : Int) : Nat → Nat → Int := fun i' => if i' = i then put1 (g i') j v else g i'
theorem rowL_set {m j : Nat} {g : Nat → Int} {v : Int} : (rowL m g).set j v = rowL m (put1 g j v) := by
  apply List.ext_getElem?
  intro k
  rw [List.getElem?_set]
  unfold rowL put1
  by_cases hk : k < m
  · by_cases e : j = k
    · subst e; simp [hk]
    · have : ¬ k = j := fun e' => e e'.symm
      simp [hk, e, this]
  · by_cases e : j = k
    · subst e; simp [hk]
    · simp [hk, e]
theorem rowL_congr {m : Nat} {g g' : Nat → Int} (h : ∀ j, j < m → g j = g' j) : rowL m g = rowL m g' := by
  unfold rowL
  exact List.map_congr_left fun j hj => h j (List.mem_range.1 hj)
/-- rows of numbers in blocks of their own, the first of n have been made -/
structure Mx (w : World) (B p n m : Nat) (ps : List Nat) (g : Nat → Nat → Int) : Prop where
  top : Blk w p 38 (ps.map (rowV m) ++ List.replicate (n - ps.length) (Value.slice none 0 0))
  le : ps.length ≤ n
  row : ∀ i q, ps[i]? = some q → Blk w q 3 ((rowL m (g i)).flatMap ints)
  nodup : ps.Nodup
  lo : ∀ q ∈ ps, B ≤ q
  plo : B ≤ p
section
variable {w w' : World} {B p n m : Nat} {ps : List Nat} {g g' : Nat → Nat → Int}
theorem Mx.ext (h : Mx w B p n m ps g) (e : Ext w w') : Mx w' B p n m ps g := ⟨h.top.ext e, h.le, fun i q hq => (h.row i q hq).ext e, h.nodup, h.lo, h.plo⟩
theorem Mx.from (e : Ext w w') (h : Mx w B p n m ps g) : Mx w' B p n m ps g := h.ext e
theorem Mx.congr (h : Mx w B p n m ps g) (hg : ∀ i j, i < n → j < m → g i j = g' i j) : Mx w B p n m ps g' :=
  ⟨h.top, h.le, fun i q hq => by
    have hi := (List.getElem?_eq_some_iff.1 hq).1
    have := h.le
    rw [← rowL_congr (fun j hj => hg i j (by omega) hj)]
    exact h.row i q hq, h.nodup, h.lo, h.plo⟩
theorem Mx.len (h : Mx w B p n m ps g) : (ps.map (rowV m) ++ List.replicate (n - ps.length) (Value.slice none 0 0) : List Value).length = n := by
  have := h.le; simp; omega
theorem Mx.rd (h : Mx w B p n m ps g) (hn : n ≤ 140737488355328) : RdS vals 1 w (some ⟨p, 0, none⟩) (ps.map (rowV m) ++ List.replicate (n - ps.length) (Value.slice none 0 0)) :=
  rd_vals h.top (by rw [h.len]; exact hn)
theorem Mx.at (_ : Mx w B p n m ps g) {i q : Nat} (hq : ps[i]? = some q) : (ps.map (rowV m) ++ List.replicate (n - ps.length) (Value.slice none 0 0) : List Value)[i]? = some (rowV m q) := by
  rw [List.getElem?_append_left (by simpa using (List.getElem?_eq_some_iff.1 hq).1)]
  simp [hq]
theorem Mx.upd {b : Nat} (h : Mx w B p n m ps g) (u : Upd b w w') (hp : p ≠ b) (hq : b ∉ ps) : Mx w' B p n m ps g :=
  ⟨h.top.upd u hp, h.le, fun i q hi => (h.row i q hi).upd u (fun e => hq (e ▸ List.mem_of_getElem? hi)), h.nodup, h.lo, h.plo⟩
theorem Mx.ne_p (h : Mx w B p n m ps g) : ∀ q ∈ ps, q ≠ p := fun q hq => by
  obtain ⟨i, hi⟩ := List.getElem?_of_mem hq
  exact (h.row i q hi).ne h.top (by decide)
theorem Mx.ne_t {b : Nat} {t : TypeId} {cs : List Value} (h : Mx w B p n m ps g) (hb : Blk w b t cs) (h1 : t ≠ 3) (h2 : t ≠ 38) : b ≠ p ∧ b ∉ ps :=
  ⟨hb.ne h.top h2, fun hm => by
    obtain ⟨i, hi⟩ := List.getElem?_of_mem hm
    exact hb.ne (h.row i b hi) h1 rfl⟩
/-- one number is written -/
theorem Mx.set {i j q : Nat} {v : Int} (h : Mx w B p n m ps g) (hq : ps[i]? = some q) (u : Upd q w w') (hb : Blk w' q 3 (((rowL m (g i)).set j v).flatMap ints)) : Mx w' B p n m ps (put2 g i j v) := by
  refine ⟨h.top.upd u (fun e => h.ne_p q (List.mem_of_getElem? hq) e.symm), h.le, fun i' q' hq' => ?_, h.nodup, h.lo, h.plo⟩
  unfold put2
  by_cases e : i' = i
  · subst e
    rw [hq] at hq'; simp at hq'; subst hq'
    rw [if_pos rfl, ← rowL_set]; exact hb
  · rw [if_neg e]
    have hne : q' ≠ q := fun e2 => e ((List.getElem?_inj (List.getElem?_eq_some_iff.1 hq').1 h.nodup).1 (by rw [hq', hq, e2]))
    exact (h.row i' q' hq').upd u hne
/-- one row is made -/
theorem Mx.snoc {w1 : World} {q : Nat} (h : Mx w B p n m ps g) (e : Ext w w1) (hq : w.heap.size ≤ q) (hb : Blk w1 q 3 ((rowL m (g ps.length)).flatMap ints)) (u : Upd p w1 w')
    (ht : Blk w' p 38 ((ps.map (rowV m) ++ List.replicate (n - ps.length) (Value.slice none 0 0)).set ps.length (rowV m q))) (hlt : ps.length < n) (hB : B ≤ w.heap.size) : Mx w' B p n m (ps ++ [q]) g := by
  have hqlt := hb.lt
  have hpq : q ≠ p := hb.ne (h.top.ext e) (by decide)
  refine ⟨?_, by simp; omega, fun i q' hi => ?_, ?_, fun x hx => ?_, h.plo⟩
  · have : (ps.map (rowV m) ++ List.replicate (n - ps.length) (Value.slice none 0 0)).set ps.length (rowV m q) = (ps ++ [q]).map (rowV m) ++ List.replicate (n - (ps ++ [q]).length) (Value.slice none 0 0) := by
      obtain ⟨d, hd⟩ : ∃ d, n - ps.length = d + 1 := ⟨n - ps.length - 1, by omega⟩
      rw [List.set_append_right _ _ (by simp), hd]
      simp [List.replicate_succ, show n - (ps.length + 1) = d by omega]
    rw [this] at ht
    exact ht
  · by_cases hi' : i < ps.length
    · rw [List.getElem?_append_left hi'] at hi
      exact ((h.row i q' hi).ext e).upd u (h.ne_p q' (List.mem_of_getElem? hi))
    · have : i = ps.length := by have := (List.getElem?_eq_some_iff.1 hi).1; simp at this; omega
      subst this
      simp at hi; subst hi
      exact hb.upd u hpq
  · rw [List.nodup_append]
    refine ⟨h.nodup, by simp, fun a ha b hb' => ?_⟩
    simp at hb'; subst hb'
    intro e2; subst e2
    obtain ⟨i, hi⟩ := List.getElem?_of_mem ha
    have := (h.row i _ hi).lt
    omega
  · rcases List.mem_append.1 hx with hx | hx
    · exact h.lo x hx
    · simp at hx; subst hx; omega
end
def IsRows (n m : Nat) (g : Nat → Nat → Int) (w : World) (v : Value) (w' : World) : Prop := ∃ p ps, v = .slice (some ⟨p, 0, none⟩) n n ∧ ps.length = n ∧ Mx w' w.heap.size p n m ps g ∧ Ext w w'
theorem slots_nat {f : Fn} (h : shapedB f = true) : ∃ m : Nat, f.slots = (m : Int) ∧ m ≤ 8 := by
  simp [shapedB] at h
  exact ⟨f.slots.toNat, by omega, by omega⟩
noncomputable def flwG (f : Fn) : Nat → Nat → Int := fun i s => flw f (s : Int) i
/-- the rows when all slots ahead of s are in, and of s itself the places ahead of i -/
noncomputable def part (f : Fn) (s i : Nat) : Nat → Nat → Int := fun i' j => if j < s ∨ (j = s ∧ i' < i) then flwG f i' j else 0
theorem part_put (f : Fn) (s i : Nat) : put2 (part f s i) i s (flwG f i s) = part f s (i + 1) := by
  funext i' j
  unfold put2 put1 part
  by_cases e : i' = i
  · subst e
    by_cases e2 : j = s
    · subst e2; simp
    · simp [e2]
  · rw [if_neg e]
    by_cases e2 : j = s
    · subst e2
      have : (i' < i + 1) = (i' < i) := propext ⟨fun h => by omega, fun h => by omega⟩
      simp [this]
    · simp [e2]
theorem Flow_no (f : Fn) (A : Option Addr) (c : Nat) (w : World) (hA : RdC w A f.code) (hS : soundB f = false) :
    Cl Tryd.prog 15 #[f.v A c] w (fun v w' => v = .slice none 0 0 ∧ Ext w w') (fun _ _ => False) := by
  refine calls_ex (args := [f.v A c]) T.ok Tryd.func15 rfl rfl rfl rfl ?_
  repeat' (first | (first | (show Gd _ _ _; first | with_reducible refine Gd.t ?_ | with_reducible refine Gd.f ?_ | with_reducible refine Gd.dec (fun _ => ?_) (fun _ => ?_) | with_reducible refine Gd.beq (fun _ => ?_) (fun _ => ?_) | with_reducible refine Gd.bne (fun _ => ?_) (fun _ => ?_) | with_reducible refine Gd.not ?_ | refine Gd.t ?_ | refine Gd.f ?_ | with_reducible refine Gd.var (fun _ => ?_) (fun _ => ?_)) | (show Sq _ _ _; refine Sq.mk ?_) | (show Ld1 _ _ _; first | (apply Ld1.blk; (focus ((repeat (first | assumption | (apply Blk.from; assumption))); done)); rfl) | (apply Ld1.rsF; (focus ((repeat (first | assumption | (apply RdS.from; assumption))); done)); assumption; rfl) | (apply Ld1.rs; (focus ((repeat (first | assumption | (apply RdS.from; assumption))); done)); assumption; rfl)) | (show Ld _ _ _ _; first | (apply Ld.blk; (focus ((repeat (first | assumption | (apply Blk.from; assumption))); done)); rfl) | (apply Ld.rs; (focus ((repeat (first | assumption | (apply RdS.from; assumption))); done)); assumption)) | (show Ix _ _ _ _ _; first | (apply Ix.rs; (focus ((repeat (first | assumption | (apply RdS.from; assumption))); done)); (first | with_reducible rfl | assumption); (first | assumption | omega)) | (apply Ix.arr; (focus ((repeat (first | assumption | (apply RdS.from; assumption))); done)); (first | assumption | (simp; done)); (first | with_reducible rfl | assumption); (first | assumption | omega))) | (show Al _ _ _ _; refine Al.mk (fun _ _ _ _ _ _ => ?_)) | (show St _ _ _ _; apply St.new; assumption; assumption; assumption; rfl; rfl; intro _ _ _ _)) | (show Cl _ _ _ _ _ _; refine Cl.mk (Sound_c _ _ _ _ (by (focus ((repeat (first | assumption | (apply RdS.from; assumption))); done)))) ?_; rintro _ _ ⟨rfl, _⟩))
  · simp_all
  · exact ⟨rfl, by (repeat (first | exact Ext.refl _ | assumption | (apply Ext.from; assumption)))⟩
theorem Flow_yes (f : Fn) (A : Option Addr) (c m : Nat) (w : World) (hA : RdC w A f.code) (hS : soundB f = true) (hm : f.slots = (m : Int)) (hm8 : m ≤ 8) :
    Cl Tryd.prog 15 #[f.v A c] w (IsRows f.code.length m (flwG f) w) (fun _ _ => False) := by
  have hsh : shapedB f = true := by simp only [soundB, Bool.and_eq_true] at hS; exact hS.1.1
  obtain ⟨hl1, hl2⟩ := shaped_len hsh
  refine calls_ex (args := [f.v A c]) T.ok Tryd.func15 rfl rfl rfl rfl ?_
  refine Sq.mk ?_
  refine Al.mk fun pf w1 hpf hb e1 hs1 => ?_
  repeat' (first | (first | (show Gd _ _ _; first | with_reducible refine Gd.t ?_ | with_reducible refine Gd.f ?_ | with_reducible refine Gd.dec (fun _ => ?_) (fun _ => ?_) | with_reducible refine Gd.beq (fun _ => ?_) (fun _ => ?_) | with_reducible refine Gd.bne (fun _ => ?_) (fun _ => ?_) | with_reducible refine Gd.not ?_ | refine Gd.t ?_ | refine Gd.f ?_ | with_reducible refine Gd.var (fun _ => ?_) (fun _ => ?_)) | (show Sq _ _ _; refine Sq.mk ?_) | (show Ld1 _ _ _; first | (apply Ld1.blk; (focus ((repeat (first | assumption | (apply Blk.from; assumption))); done)); rfl) | (apply Ld1.rsF; (focus ((repeat (first | assumption | (apply RdS.from; assumption))); done)); assumption; rfl) | (apply Ld1.rs; (focus ((repeat (first | assumption | (apply RdS.from; assumption))); done)); assumption; rfl)) | (show Ld _ _ _ _; first | (apply Ld.blk; (focus ((repeat (first | assumption | (apply Blk.from; assumption))); done)); rfl) | (apply Ld.rs; (focus ((repeat (first | assumption | (apply RdS.from; assumption))); done)); assumption)) | (show Ix _ _ _ _ _; first | (apply Ix.rs; (focus ((repeat (first | assumption | (apply RdS.from; assumption))); done)); (first | with_reducible rfl | assumption); (first | assumption | omega)) | (apply Ix.arr; (focus ((repeat (first | assumption | (apply RdS.from; assumption))); done)); (first | assumption | (simp; done)); (first | with_reducible rfl | assumption); (first | assumption | omega))) | (show Al _ _ _ _; refine Al.mk (fun _ _ _ _ _ _ => ?_)) | (show St _ _ _ _; apply St.new; assumption; assumption; assumption; rfl; rfl; intro _ _ _ _)) | (show Cl _ _ _ _ _ _; refine Cl.mk (Sound_c _ _ _ _ (by (focus ((repeat (first | assumption | (apply RdS.from; assumption))); done)))) ?_; rintro _ _ ⟨rfl, _⟩))
  rotate_left
  · simp_all
  rename_i w2 e2 _
  refine Sm.make T.ok (enc := vals) (z := .slice none 0 0) (n := f.code.length) rfl rfl rfl rfl rfl rfl rfl rfl Nat.zero_lt_one (Nat.le_trans (Nat.mul_le_mul_left _ hl2) (by decide)) (by omega) (fun p w3 hp hb3 e3 => ?_)
  rw [flat_vals] at hb3
  have M0 : Mx w3 w.heap.size p f.code.length m [] (part f 0 0) := by
    have := e1.size; have := e2.size
    exact ⟨hb3, by simp, by simp, by simp, by simp, by omega⟩
  have e03 : Ext w w3 := by (repeat (first | exact Ext.refl _ | assumption | (apply Ext.from; assumption)))
  have hb := hb.ext (e2.trans e3)
  clear hb3 e1 e2 e3 hs1
  repeat' (first | (show Gd _ _ _; first | with_reducible refine Gd.t ?_ | with_reducible refine Gd.f ?_ | with_reducible refine Gd.dec (fun _ => ?_) (fun _ => ?_) | with_reducible refine Gd.beq (fun _ => ?_) (fun _ => ?_) | with_reducible refine Gd.bne (fun _ => ?_) (fun _ => ?_) | with_reducible refine Gd.not ?_ | refine Gd.t ?_ | refine Gd.f ?_ | with_reducible refine Gd.var (fun _ => ?_) (fun _ => ?_)) | (show Sq _ _ _; refine Sq.mk ?_) | (show Ld1 _ _ _; first | (apply Ld1.blk; (focus ((repeat (first | assumption | (apply Blk.from; assumption))); done)); rfl) | (apply Ld1.rsF; (focus ((repeat (first | assumption | (apply RdS.from; assumption))); done)); assumption; rfl) | (apply Ld1.rs; (focus ((repeat (first | assumption | (apply RdS.from; assumption))); done)); assumption; rfl)) | (show Ld _ _ _ _; first | (apply Ld.blk; (focus ((repeat (first | assumption | (apply Blk.from; assumption))); done)); rfl) | (apply Ld.rs; (focus ((repeat (first | assumption | (apply RdS.from; assumption))); done)); assumption)) | (show Ix _ _ _ _ _; first | (apply Ix.rs; (focus ((repeat (first | assumption | (apply RdS.from; assumption))); done)); (first | with_reducible rfl | assumption); (first | assumption | omega)) | (apply Ix.arr; (focus ((repeat (first | assumption | (apply RdS.from; assumption))); done)); (first | assumption | (simp; done)); (first | with_reducible rfl | assumption); (first | assumption | omega))) | (show Al _ _ _ _; refine Al.mk (fun _ _ _ _ _ _ => ?_)) | (show St _ _ _ _; apply St.new; assumption; assumption; assumption; rfl; rfl; intro _ _ _ _))
  refine Lp.g0 T.ok (σ := List Nat) (fun ps => [(5, .int .i64 (ps.length : Int)), (4, .slice (some ⟨p, 0, none⟩) f.code.length f.code.length), (1, .pointer (some ⟨pf, 0, none⟩))])
    (fun ps w' => Mx w' w.heap.size p f.code.length m ps (part f 0 0) ∧ Ext w w' ∧ Blk w' pf 24 (f.v A c).cells.toList) (fun ps _ => f.code.length - ps.length) [] rfl ⟨rfl, rfl, rfl, trivial⟩ ⟨M0, e03, hb⟩ ?_
  clear M0 e03 hb
  rintro ps w4 ⟨hM, e04, hb⟩
  have hle := hM.le
  by_cases hlt : ps.length < f.code.length
  · repeat' (first | ((show Gd _ _ _; first | with_reducible refine Gd.t ?_ | with_reducible refine Gd.f ?_ | with_reducible refine Gd.dec (fun _ => ?_) (fun _ => ?_) | with_reducible refine Gd.beq (fun _ => ?_) (fun _ => ?_) | with_reducible refine Gd.bne (fun _ => ?_) (fun _ => ?_) | with_reducible refine Gd.not ?_ | refine Gd.t ?_ | refine Gd.f ?_ | with_reducible refine Gd.var (fun _ => ?_) (fun _ => ?_)) <;> first | (exfalso; omega) | skip) | (first | (show Gd _ _ _; first | with_reducible refine Gd.t ?_ | with_reducible refine Gd.f ?_ | with_reducible refine Gd.dec (fun _ => ?_) (fun _ => ?_) | with_reducible refine Gd.beq (fun _ => ?_) (fun _ => ?_) | with_reducible refine Gd.bne (fun _ => ?_) (fun _ => ?_) | with_reducible refine Gd.not ?_ | refine Gd.t ?_ | refine Gd.f ?_ | with_reducible refine Gd.var (fun _ => ?_) (fun _ => ?_)) | (show Sq _ _ _; refine Sq.mk ?_) | (show Ld1 _ _ _; first | (apply Ld1.blk; (focus ((repeat (first | assumption | (apply Blk.from; assumption))); done)); rfl) | (apply Ld1.rsF; (focus ((repeat (first | assumption | (apply RdS.from; assumption))); done)); assumption; rfl) | (apply Ld1.rs; (focus ((repeat (first | assumption | (apply RdS.from; assumption))); done)); assumption; rfl)) | (show Ld _ _ _ _; first | (apply Ld.blk; (focus ((repeat (first | assumption | (apply Blk.from; assumption))); done)); rfl) | (apply Ld.rs; (focus ((repeat (first | assumption | (apply RdS.from; assumption))); done)); assumption)) | (show Ix _ _ _ _ _; first | (apply Ix.rs; (focus ((repeat (first | assumption | (apply RdS.from; assumption))); done)); (first | with_reducible rfl | assumption); (first | assumption | omega)) | (apply Ix.arr; (focus ((repeat (first | assumption | (apply RdS.from; assumption))); done)); (first | assumption | (simp; done)); (first | with_reducible rfl | assumption); (first | assumption | omega))) | (show Al _ _ _ _; refine Al.mk (fun _ _ _ _ _ _ => ?_)) | (show St _ _ _ _; apply St.new; assumption; assumption; assumption; rfl; rfl; intro _ _ _ _)))
    refine Sm.make T.ok (enc := ints) (z := 0) (n := m) rfl rfl rfl hm hm rfl rfl rfl Nat.zero_lt_one (Nat.le_trans (Nat.mul_le_mul_left _ hm8) (by decide)) (by omega) (fun q w5 hq hb5 e5 => ?_)
    have hrt := (hM.ext e5).rd (by omega)
    have hlen := hM.len
    refine Ix.arr (i := ps.length) hrt hlen rfl (by rw [hlen]; exact hlt) ?_
    have hz : List.replicate m (0 : Int) = rowL m (part f 0 0 ps.length) := by
      unfold rowL part
      simp [List.map_const']
    rw [hz] at hb5
    refine St.cell (hM.ext e5).top (by rw [hlen]; exact hlt) rfl fun w6 u6 ht6 => ?_
    have hM6 := hM.snoc e5 (by omega) hb5 u6 ht6 hlt e04.size
    have hb6 := (hb.ext e5).upd u6 ((hM.ext e5).ne_t (hb.ext e5) (by decide) (by decide)).1
    have e06 := (e04.trans e5).upd u6 hM.plo
    repeat' (first | (show Gd _ _ _; first | with_reducible refine Gd.t ?_ | with_reducible refine Gd.f ?_ | with_reducible refine Gd.dec (fun _ => ?_) (fun _ => ?_) | with_reducible refine Gd.beq (fun _ => ?_) (fun _ => ?_) | with_reducible refine Gd.bne (fun _ => ?_) (fun _ => ?_) | with_reducible refine Gd.not ?_ | refine Gd.t ?_ | refine Gd.f ?_ | with_reducible refine Gd.var (fun _ => ?_) (fun _ => ?_)) | (show Sq _ _ _; refine Sq.mk ?_) | (show Ld1 _ _ _; first | (apply Ld1.blk; (focus ((repeat (first | assumption | (apply Blk.from; assumption))); done)); rfl) | (apply Ld1.rsF; (focus ((repeat (first | assumption | (apply RdS.from; assumption))); done)); assumption; rfl) | (apply Ld1.rs; (focus ((repeat (first | assumption | (apply RdS.from; assumption))); done)); assumption; rfl)) | (show Ld _ _ _ _; first | (apply Ld.blk; (focus ((repeat (first | assumption | (apply Blk.from; assumption))); done)); rfl) | (apply Ld.rs; (focus ((repeat (first | assumption | (apply RdS.from; assumption))); done)); assumption)) | (show Ix _ _ _ _ _; first | (apply Ix.rs; (focus ((repeat (first | assumption | (apply RdS.from; assumption))); done)); (first | with_reducible rfl | assumption); (first | assumption | omega)) | (apply Ix.arr; (focus ((repeat (first | assumption | (apply RdS.from; assumption))); done)); (first | assumption | (simp; done)); (first | with_reducible rfl | assumption); (first | assumption | omega))) | (show Al _ _ _ _; refine Al.mk (fun _ _ _ _ _ _ => ?_)) | (show St _ _ _ _; apply St.new; assumption; assumption; assumption; rfl; rfl; intro _ _ _ _))
    refine ⟨ps ++ [q], ⟨at_int (m := ((ps ++ [q]).length : Int)) rfl (w64 (by simp) (by omega) (by simp; omega)), rfl, rfl, trivial⟩, rfl, ⟨hM6, e06, hb6⟩, by simp; omega⟩
  · have hpl : ps.length = f.code.length := by omega
    repeat' (first | ((show Gd _ _ _; first | with_reducible refine Gd.t ?_ | with_reducible refine Gd.f ?_ | with_reducible refine Gd.dec (fun _ => ?_) (fun _ => ?_) | with_reducible refine Gd.beq (fun _ => ?_) (fun _ => ?_) | with_reducible refine Gd.bne (fun _ => ?_) (fun _ => ?_) | with_reducible refine Gd.not ?_ | refine Gd.t ?_ | refine Gd.f ?_ | with_reducible refine Gd.var (fun _ => ?_) (fun _ => ?_)) <;> first | (exfalso; omega) | skip) | (first | (show Gd _ _ _; first | with_reducible refine Gd.t ?_ | with_reducible refine Gd.f ?_ | with_reducible refine Gd.dec (fun _ => ?_) (fun _ => ?_) | with_reducible refine Gd.beq (fun _ => ?_) (fun _ => ?_) | with_reducible refine Gd.bne (fun _ => ?_) (fun _ => ?_) | with_reducible refine Gd.not ?_ | refine Gd.t ?_ | refine Gd.f ?_ | with_reducible refine Gd.var (fun _ => ?_) (fun _ => ?_)) | (show Sq _ _ _; refine Sq.mk ?_) | (show Ld1 _ _ _; first | (apply Ld1.blk; (focus ((repeat (first | assumption | (apply Blk.from; assumption))); done)); rfl) | (apply Ld1.rsF; (focus ((repeat (first | assumption | (apply RdS.from; assumption))); done)); assumption; rfl) | (apply Ld1.rs; (focus ((repeat (first | assumption | (apply RdS.from; assumption))); done)); assumption; rfl)) | (show Ld _ _ _ _; first | (apply Ld.blk; (focus ((repeat (first | assumption | (apply Blk.from; assumption))); done)); rfl) | (apply Ld.rs; (focus ((repeat (first | assumption | (apply RdS.from; assumption))); done)); assumption)) | (show Ix _ _ _ _ _; first | (apply Ix.rs; (focus ((repeat (first | assumption | (apply RdS.from; assumption))); done)); (first | with_reducible rfl | assumption); (first | assumption | omega)) | (apply Ix.arr; (focus ((repeat (first | assumption | (apply RdS.from; assumption))); done)); (first | assumption | (simp; done)); (first | with_reducible rfl | assumption); (first | assumption | omega))) | (show Al _ _ _ _; refine Al.mk (fun _ _ _ _ _ _ => ?_)) | (show St _ _ _ _; apply St.new; assumption; assumption; assumption; rfl; rfl; intro _ _ _ _)))
    refine Lp.g0 T.ok (σ := Nat) (fun s => [(6, .int .i64 (s : Int)), (4, .slice (some ⟨p, 0, none⟩) f.code.length f.code.length), (1, .pointer (some ⟨pf, 0, none⟩))])
      (fun s w' => s ≤ m ∧ Mx w' w.heap.size p f.code.length m ps (part f s 0) ∧ Ext w w' ∧ Blk w' pf 24 (f.v A c).cells.toList) (fun s _ => m - s) 0 rfl ⟨rfl, rfl, rfl, trivial⟩ ⟨by omega, hM, e04, hb⟩ ?_
    clear hM e04 hb hlt hle
    rintro s w7 ⟨hs, hM, e07, hb⟩
    have hlen := hM.len
    by_cases hsm : s < m
    · repeat' (first | ((show Gd _ _ _; first | with_reducible refine Gd.t ?_ | with_reducible refine Gd.f ?_ | with_reducible refine Gd.dec (fun _ => ?_) (fun _ => ?_) | with_reducible refine Gd.beq (fun _ => ?_) (fun _ => ?_) | with_reducible refine Gd.bne (fun _ => ?_) (fun _ => ?_) | with_reducible refine Gd.not ?_ | refine Gd.t ?_ | refine Gd.f ?_ | with_reducible refine Gd.var (fun _ => ?_) (fun _ => ?_)) <;> first | (exfalso; omega) | skip) | (first | (show Gd _ _ _; first | with_reducible refine Gd.t ?_ | with_reducible refine Gd.f ?_ | with_reducible refine Gd.dec (fun _ => ?_) (fun _ => ?_) | with_reducible refine Gd.beq (fun _ => ?_) (fun _ => ?_) | with_reducible refine Gd.bne (fun _ => ?_) (fun _ => ?_) | with_reducible refine Gd.not ?_ | refine Gd.t ?_ | refine Gd.f ?_ | with_reducible refine Gd.var (fun _ => ?_) (fun _ => ?_)) | (show Sq _ _ _; refine Sq.mk ?_) | (show Ld1 _ _ _; first | (apply Ld1.blk; (focus ((repeat (first | assumption | (apply Blk.from; assumption))); done)); rfl) | (apply Ld1.rsF; (focus ((repeat (first | assumption | (apply RdS.from; assumption))); done)); assumption; rfl) | (apply Ld1.rs; (focus ((repeat (first | assumption | (apply RdS.from; assumption))); done)); assumption; rfl)) | (show Ld _ _ _ _; first | (apply Ld.blk; (focus ((repeat (first | assumption | (apply Blk.from; assumption))); done)); rfl) | (apply Ld.rs; (focus ((repeat (first | assumption | (apply RdS.from; assumption))); done)); assumption)) | (show Ix _ _ _ _ _; first | (apply Ix.rs; (focus ((repeat (first | assumption | (apply RdS.from; assumption))); done)); (first | with_reducible rfl | assumption); (first | assumption | omega)) | (apply Ix.arr; (focus ((repeat (first | assumption | (apply RdS.from; assumption))); done)); (first | assumption | (simp; done)); (first | with_reducible rfl | assumption); (first | assumption | omega))) | (show Al _ _ _ _; refine Al.mk (fun _ _ _ _ _ _ => ?_)) | (show St _ _ _ _; apply St.new; assumption; assumption; assumption; rfl; rfl; intro _ _ _ _)))
      (show Cl _ _ _ _ _ _; refine Cl.mk (slotStates_c f A c s _ (by (focus ((repeat (first | assumption | (apply RdS.from; assumption))); done))) hS) ?_)
      rintro _ w8 ⟨pm, rfl, hpm, hbm, e8⟩
      have hml : (flwL f (s : Int)).length = f.code.length := by simp [flwL]
      repeat' (first | (show Gd _ _ _; first | with_reducible refine Gd.t ?_ | with_reducible refine Gd.f ?_ | with_reducible refine Gd.dec (fun _ => ?_) (fun _ => ?_) | with_reducible refine Gd.beq (fun _ => ?_) (fun _ => ?_) | with_reducible refine Gd.bne (fun _ => ?_) (fun _ => ?_) | with_reducible refine Gd.not ?_ | refine Gd.t ?_ | refine Gd.f ?_ | with_reducible refine Gd.var (fun _ => ?_) (fun _ => ?_)) | (show Sq _ _ _; refine Sq.mk ?_) | (show Ld1 _ _ _; first | (apply Ld1.blk; (focus ((repeat (first | assumption | (apply Blk.from; assumption))); done)); rfl) | (apply Ld1.rsF; (focus ((repeat (first | assumption | (apply RdS.from; assumption))); done)); assumption; rfl) | (apply Ld1.rs; (focus ((repeat (first | assumption | (apply RdS.from; assumption))); done)); assumption; rfl)) | (show Ld _ _ _ _; first | (apply Ld.blk; (focus ((repeat (first | assumption | (apply Blk.from; assumption))); done)); rfl) | (apply Ld.rs; (focus ((repeat (first | assumption | (apply RdS.from; assumption))); done)); assumption)) | (show Ix _ _ _ _ _; first | (apply Ix.rs; (focus ((repeat (first | assumption | (apply RdS.from; assumption))); done)); (first | with_reducible rfl | assumption); (first | assumption | omega)) | (apply Ix.arr; (focus ((repeat (first | assumption | (apply RdS.from; assumption))); done)); (first | assumption | (simp; done)); (first | with_reducible rfl | assumption); (first | assumption | omega))) | (show Al _ _ _ _; refine Al.mk (fun _ _ _ _ _ _ => ?_)) | (show St _ _ _ _; apply St.new; assumption; assumption; assumption; rfl; rfl; intro _ _ _ _))
      refine Lp.g0 T.ok (σ := Nat) (fun i => [(8, .int .i64 (i : Int)), (7, .slice (some ⟨pm, 0, none⟩) (flwL f (s : Int)).length (flwL f (s : Int)).length), (6, .int .i64 (s : Int)), (4, .slice (some ⟨p, 0, none⟩) f.code.length f.code.length), (1, .pointer (some ⟨pf, 0, none⟩))])
        (fun i w' => i ≤ f.code.length ∧ Mx w' w.heap.size p f.code.length m ps (part f s i) ∧ Ext w w' ∧ Blk w' pf 24 (f.v A c).cells.toList ∧ Blk w' pm 3 ((flwL f (s : Int)).flatMap ints) ∧ pm ∉ ps) (fun i _ => f.code.length - i) 0 rfl ⟨rfl, rfl, rfl, rfl, rfl, trivial⟩
        ⟨by omega, hM.ext e8, e07.trans e8, hb.ext e8, hbm, fun hmem => by
          obtain ⟨i, hi⟩ := List.getElem?_of_mem hmem
          have := (hM.row i _ hi).lt; omega⟩ ?_
      clear hM e07 hb hbm hpm e8
      rintro i w9 ⟨hi, hM, e09, hb, hbm, hpm⟩
      have hrm := rd_of_blk hbm (by rw [hml]; omega)
      by_cases hil : i < f.code.length
      · obtain ⟨q, hq⟩ : ∃ q, ps[i]? = some q := ⟨_, List.getElem?_eq_getElem (by omega)⟩
        have hrt := hM.rd (by omega)
        have hat := hM.at hq
        have hmi : (flwL f (s : Int))[i]? = some (flwG f i s) := by simp [flwL, hil, flwG]
        have hrq := hM.row i q hq
        have hrr := rd_of_blk hrq (by rw [rowL_len]; omega)
        repeat' (first | ((show Gd _ _ _; first | with_reducible refine Gd.t ?_ | with_reducible refine Gd.f ?_ | with_reducible refine Gd.dec (fun _ => ?_) (fun _ => ?_) | with_reducible refine Gd.beq (fun _ => ?_) (fun _ => ?_) | with_reducible refine Gd.bne (fun _ => ?_) (fun _ => ?_) | with_reducible refine Gd.not ?_ | refine Gd.t ?_ | refine Gd.f ?_ | with_reducible refine Gd.var (fun _ => ?_) (fun _ => ?_)) <;> first | (exfalso; omega) | skip) | (first | (show Gd _ _ _; first | with_reducible refine Gd.t ?_ | with_reducible refine Gd.f ?_ | with_reducible refine Gd.dec (fun _ => ?_) (fun _ => ?_) | with_reducible refine Gd.beq (fun _ => ?_) (fun _ => ?_) | with_reducible refine Gd.bne (fun _ => ?_) (fun _ => ?_) | with_reducible refine Gd.not ?_ | refine Gd.t ?_ | refine Gd.f ?_ | with_reducible refine Gd.var (fun _ => ?_) (fun _ => ?_)) | (show Sq _ _ _; refine Sq.mk ?_) | (show Ld1 _ _ _; first | (apply Ld1.blk; (focus ((repeat (first | assumption | (apply Blk.from; assumption))); done)); rfl) | (apply Ld1.rsF; (focus ((repeat (first | assumption | (apply RdS.from; assumption))); done)); assumption; rfl) | (apply Ld1.rs; (focus ((repeat (first | assumption | (apply RdS.from; assumption))); done)); assumption; rfl)) | (show Ld _ _ _ _; first | (apply Ld.blk; (focus ((repeat (first | assumption | (apply Blk.from; assumption))); done)); rfl) | (apply Ld.rs; (focus ((repeat (first | assumption | (apply RdS.from; assumption))); done)); assumption)) | (show Ix _ _ _ _ _; first | (apply Ix.rs; (focus ((repeat (first | assumption | (apply RdS.from; assumption))); done)); (first | with_reducible rfl | assumption); (first | assumption | omega)) | (apply Ix.arr; (focus ((repeat (first | assumption | (apply RdS.from; assumption))); done)); (first | assumption | (simp; done)); (first | with_reducible rfl | assumption); (first | assumption | omega))) | (show Al _ _ _ _; refine Al.mk (fun _ _ _ _ _ _ => ?_)) | (show St _ _ _ _; apply St.new; assumption; assumption; assumption; rfl; rfl; intro _ _ _ _)))
        refine Dr.tail T.ok mixed 9 (by kernel_rfl) fun W w10 hW e10 _ => ?_
        (show Ix _ _ _ _ _; refine Ix.arr (i := i) (by (focus ((repeat (first | assumption | (apply RdS.from; assumption))); done))) hlen rfl (by rw [hlen]; exact hil) ?_)
        repeat' (first | (show Gd _ _ _; first | with_reducible refine Gd.t ?_ | with_reducible refine Gd.f ?_ | with_reducible refine Gd.dec (fun _ => ?_) (fun _ => ?_) | with_reducible refine Gd.beq (fun _ => ?_) (fun _ => ?_) | with_reducible refine Gd.bne (fun _ => ?_) (fun _ => ?_) | with_reducible refine Gd.not ?_ | refine Gd.t ?_ | refine Gd.f ?_ | with_reducible refine Gd.var (fun _ => ?_) (fun _ => ?_)) | (show QLd1 _ _ _; first | (apply QLd1.blk hW; (focus ((repeat (first | assumption | (apply Blk.from; assumption))); done)); rfl) | (apply QLd1.rsF hW; (focus ((repeat (first | assumption | (apply RdS.from; assumption))); done)); assumption; rfl) | (apply QLd1.rs hW; (focus ((repeat (first | assumption | (apply RdS.from; assumption))); done)); assumption; rfl)) | (show QLd _ _ _ _; first | (apply QLd.blk hW; (focus ((repeat (first | assumption | (apply Blk.from; assumption))); done)); rfl) | (apply QLd.rs hW; (focus ((repeat (first | assumption | (apply RdS.from; assumption))); done)); assumption)) | (show Ix _ _ _ _ _; first | (apply Ix.rs; (focus ((repeat (first | assumption | (apply RdS.from; assumption))); done)); (first | with_reducible rfl | assumption); (first | assumption | omega)) | (apply Ix.arr; (focus ((repeat (first | assumption | (apply RdS.from; assumption))); done)); (first | assumption | (simp; done)); (first | with_reducible rfl | assumption); (first | assumption | omega))))
        (show Ix _ _ _ _ _; refine Ix.arr (i := s) (RdS.from e10 hrr) (rowL_len _ _) rfl (by rw [rowL_len]; exact hsm) ?_)
        refine St.ints (hrq.ext e10) (by rw [rowL_len]; exact hsm) fun w11 u11 hq11 => ?_
        have hM11 := (hM.ext e10).set hq u11 hq11
        rw [part_put] at hM11
        have hqm := List.mem_of_getElem? hq
        have hb11 := (hb.ext e10).upd u11 (fun e => ((hM.ext e10).ne_t (hb.ext e10) (by decide) (by decide)).2 (e ▸ hqm))
        have hbm11 := (hbm.ext e10).upd u11 (fun e => hpm (e ▸ hqm))
        have e011 := (e09.trans e10).upd u11 (hM.lo q hqm)
        repeat' (first | (show Gd _ _ _; first | with_reducible refine Gd.t ?_ | with_reducible refine Gd.f ?_ | with_reducible refine Gd.dec (fun _ => ?_) (fun _ => ?_) | with_reducible refine Gd.beq (fun _ => ?_) (fun _ => ?_) | with_reducible refine Gd.bne (fun _ => ?_) (fun _ => ?_) | with_reducible refine Gd.not ?_ | refine Gd.t ?_ | refine Gd.f ?_ | with_reducible refine Gd.var (fun _ => ?_) (fun _ => ?_)) | (show Sq _ _ _; refine Sq.mk ?_) | (show Ld1 _ _ _; first | (apply Ld1.blk; (focus ((repeat (first | assumption | (apply Blk.from; assumption))); done)); rfl) | (apply Ld1.rsF; (focus ((repeat (first | assumption | (apply RdS.from; assumption))); done)); assumption; rfl) | (apply Ld1.rs; (focus ((repeat (first | assumption | (apply RdS.from; assumption))); done)); assumption; rfl)) | (show Ld _ _ _ _; first | (apply Ld.blk; (focus ((repeat (first | assumption | (apply Blk.from; assumption))); done)); rfl) | (apply Ld.rs; (focus ((repeat (first | assumption | (apply RdS.from; assumption))); done)); assumption)) | (show Ix _ _ _ _ _; first | (apply Ix.rs; (focus ((repeat (first | assumption | (apply RdS.from; assumption))); done)); (first | with_reducible rfl | assumption); (first | assumption | omega)) | (apply Ix.arr; (focus ((repeat (first | assumption | (apply RdS.from; assumption))); done)); (first | assumption | (simp; done)); (first | with_reducible rfl | assumption); (first | assumption | omega))) | (show Al _ _ _ _; refine Al.mk (fun _ _ _ _ _ _ => ?_)) | (show St _ _ _ _; apply St.new; assumption; assumption; assumption; rfl; rfl; intro _ _ _ _))
        exact ⟨i + 1, ⟨at_int (m := ((i + 1 : Nat) : Int)) rfl (w64 (by simp) (by omega) (by omega)), rfl, rfl, rfl, rfl, trivial⟩, rfl, ⟨by omega, hM11, e011, hb11, hbm11, hpm⟩, by omega⟩
      · repeat' (first | ((show Gd _ _ _; first | with_reducible refine Gd.t ?_ | with_reducible refine Gd.f ?_ | with_reducible refine Gd.dec (fun _ => ?_) (fun _ => ?_) | with_reducible refine Gd.beq (fun _ => ?_) (fun _ => ?_) | with_reducible refine Gd.bne (fun _ => ?_) (fun _ => ?_) | with_reducible refine Gd.not ?_ | refine Gd.t ?_ | refine Gd.f ?_ | with_reducible refine Gd.var (fun _ => ?_) (fun _ => ?_)) <;> first | (exfalso; omega) | skip) | (first | (show Gd _ _ _; first | with_reducible refine Gd.t ?_ | with_reducible refine Gd.f ?_ | with_reducible refine Gd.dec (fun _ => ?_) (fun _ => ?_) | with_reducible refine Gd.beq (fun _ => ?_) (fun _ => ?_) | with_reducible refine Gd.bne (fun _ => ?_) (fun _ => ?_) | with_reducible refine Gd.not ?_ | refine Gd.t ?_ | refine Gd.f ?_ | with_reducible refine Gd.var (fun _ => ?_) (fun _ => ?_)) | (show Sq _ _ _; refine Sq.mk ?_) | (show Ld1 _ _ _; first | (apply Ld1.blk; (focus ((repeat (first | assumption | (apply Blk.from; assumption))); done)); rfl) | (apply Ld1.rsF; (focus ((repeat (first | assumption | (apply RdS.from; assumption))); done)); assumption; rfl) | (apply Ld1.rs; (focus ((repeat (first | assumption | (apply RdS.from; assumption))); done)); assumption; rfl)) | (show Ld _ _ _ _; first | (apply Ld.blk; (focus ((repeat (first | assumption | (apply Blk.from; assumption))); done)); rfl) | (apply Ld.rs; (focus ((repeat (first | assumption | (apply RdS.from; assumption))); done)); assumption)) | (show Ix _ _ _ _ _; first | (apply Ix.rs; (focus ((repeat (first | assumption | (apply RdS.from; assumption))); done)); (first | with_reducible rfl | assumption); (first | assumption | omega)) | (apply Ix.arr; (focus ((repeat (first | assumption | (apply RdS.from; assumption))); done)); (first | assumption | (simp; done)); (first | with_reducible rfl | assumption); (first | assumption | omega))) | (show Al _ _ _ _; refine Al.mk (fun _ _ _ _ _ _ => ?_)) | (show St _ _ _ _; apply St.new; assumption; assumption; assumption; rfl; rfl; intro _ _ _ _)))
        have : i = f.code.length := by omega
        subst this
        refine ⟨s + 1, ⟨at_int (m := ((s + 1 : Nat) : Int)) rfl (w64 (by simp) (by omega) (by omega)), rfl, rfl, trivial⟩, rfl, ⟨by omega, hM.congr fun i' j hi' hj => ?_, e09, hb⟩, by omega⟩
        unfold part
        by_cases hc : j < s ∨ j = s ∧ i' < f.code.length
        · rw [if_pos hc, if_pos (by omega)]
        · rw [if_neg hc, if_neg (by omega)]
    · repeat' (first | ((show Gd _ _ _; first | with_reducible refine Gd.t ?_ | with_reducible refine Gd.f ?_ | with_reducible refine Gd.dec (fun _ => ?_) (fun _ => ?_) | with_reducible refine Gd.beq (fun _ => ?_) (fun _ => ?_) | with_reducible refine Gd.bne (fun _ => ?_) (fun _ => ?_) | with_reducible refine Gd.not ?_ | refine Gd.t ?_ | refine Gd.f ?_ | with_reducible refine Gd.var (fun _ => ?_) (fun _ => ?_)) <;> first | (exfalso; omega) | skip) | (first | (show Gd _ _ _; first | with_reducible refine Gd.t ?_ | with_reducible refine Gd.f ?_ | with_reducible refine Gd.dec (fun _ => ?_) (fun _ => ?_) | with_reducible refine Gd.beq (fun _ => ?_) (fun _ => ?_) | with_reducible refine Gd.bne (fun _ => ?_) (fun _ => ?_) | with_reducible refine Gd.not ?_ | refine Gd.t ?_ | refine Gd.f ?_ | with_reducible refine Gd.var (fun _ => ?_) (fun _ => ?_)) | (show Sq _ _ _; refine Sq.mk ?_) | (show Ld1 _ _ _; first | (apply Ld1.blk; (focus ((repeat (first | assumption | (apply Blk.from; assumption))); done)); rfl) | (apply Ld1.rsF; (focus ((repeat (first | assumption | (apply RdS.from; assumption))); done)); assumption; rfl) | (apply Ld1.rs; (focus ((repeat (first | assumption | (apply RdS.from; assumption))); done)); assumption; rfl)) | (show Ld _ _ _ _; first | (apply Ld.blk; (focus ((repeat (first | assumption | (apply Blk.from; assumption))); done)); rfl) | (apply Ld.rs; (focus ((repeat (first | assumption | (apply RdS.from; assumption))); done)); assumption)) | (show Ix _ _ _ _ _; first | (apply Ix.rs; (focus ((repeat (first | assumption | (apply RdS.from; assumption))); done)); (first | with_reducible rfl | assumption); (first | assumption | omega)) | (apply Ix.arr; (focus ((repeat (first | assumption | (apply RdS.from; assumption))); done)); (first | assumption | (simp; done)); (first | with_reducible rfl | assumption); (first | assumption | omega))) | (show Al _ _ _ _; refine Al.mk (fun _ _ _ _ _ _ => ?_)) | (show St _ _ _ _; apply St.new; assumption; assumption; assumption; rfl; rfl; intro _ _ _ _)))
      have : s = m := by omega
      subst this
      refine ⟨p, ps, rfl, hpl, hM.congr fun i' j hi' hj => ?_, e07⟩
      unfold part
      rw [if_pos (.inl hj)]
end Go.Proofs.YtbbadmlekagloaaDoor
namespace Go.Sh
set_option linter.unusedSectionVars false
set_option linter.unusedVariables false
set_option linter.unusedSimpArgs false
open Go.RowKit
/-- keys that compare as their Lean values do -/
structure KeyOK (P : Program) {κ : Type} [DecidableEq κ] (K : TypeId) (kv : κ → Value) : Prop where
  check : ∀ b x w, (Instr.checkKey b 10000 K (kv x)).run P w = Result.ok () w
  find : ∃ d, P.underlying K = some d ∧ ((∀ x y, Instr.sameNow d (kv x) (kv y) = some (decide (x = y))) ∨
    ((∀ x y, Instr.sameNow d (kv x) (kv y) = none) ∧ ∀ x y w, (Op.equal K (kv x) (kv y)).run P w = Result.ok (decide (x = y)) w))
  bits : ∀ x, Instr.sameBits 10000 (kv x) (kv x) = true
section
variable {P : Program} {κ ν : Type} [DecidableEq κ] {K : TypeId} {kv : κ → Value} {vv : ν → Value}
/-- the entries of a map, keys and values, in the order of their births -/
structure Ents (kv : κ → Value) (vv : ν → Value) (es : List MapEntry) (clk : Nat) (m : List (κ × ν)) : Prop where
  len : es.length = m.length
  at_ : ∀ (i : Nat) (k : κ) (v : ν), m[i]? = some (k, v) → ∃ b : Nat, es[i]? = some (⟨kv k, vv v, b⟩ : MapEntry) ∧ b < clk
  inc : ∀ (i j : Nat) (a b : MapEntry), i < j → es[i]? = some a → es[j]? = some b → a.born < b.born
def fnd (m : List (κ × ν)) (k : κ) : Option ν := (m.find? fun x => decide (x.1 = k)).map (·.2)
def idx (m : List (κ × ν)) (k : κ) : Nat → Option (Nat × ν) := fun i => match m with
  | [] => none
  | (k', v) :: r => if k = k' then some (i, v) else idx r k (i + 1)
theorem idx_fnd (k : κ) : ∀ (m : List (κ × ν)) (i : Nat), (idx m k i).map (·.2) = fnd m k
  | [], i => rfl
  | (k', v) :: r, i => by
    unfold idx fnd
    by_cases h : k = k'
    · subst h; simp
    · have h' : ¬ k' = k := fun e => h e.symm
      simp only [h, if_false, List.find?_cons, h', decide_false]
      exact idx_fnd k r (i + 1)
theorem idx_some (k : κ) : ∀ (m : List (κ × ν)) (i j : Nat) (v : ν), idx m k i = some (j, v) → i ≤ j ∧ m[j - i]? = some (k, v)
  | [], i, j, v, h => by simp [idx] at h
  | (k', v') :: r, i, j, v, h => by
    unfold idx at h
    by_cases e : k = k'
    · subst e; simp at h; obtain ⟨rfl, rfl⟩ := h; simp
    · rw [if_neg e] at h
      obtain ⟨h1, h2⟩ := idx_some k r (i + 1) j v h
      refine ⟨by omega, ?_⟩
      rw [show j - i = (j - (i + 1)) + 1 by omega]
      simpa using h2
theorem idx_none (k : κ) : ∀ (m : List (κ × ν)) (i : Nat), idx m k i = none ↔ ∀ x ∈ m, x.1 ≠ k
  | [], i => by simp [idx]
  | (k', v) :: r, i => by
    unfold idx
    by_cases h : k = k'
    · subst h; simp
    · rw [if_neg h, idx_none k r]
      simp only [List.mem_cons, forall_eq_or_imp]
      exact ⟨fun a => ⟨fun e => h e.symm, a⟩, fun a => a.2⟩
theorem run_findKey (hK : KeyOK P K kv) (k : κ) (w : World) : ∀ (es : List MapEntry) (m : List (κ × ν)) (h : es.map (fun e => (e.key, e.val)) = m.map fun x => (kv x.1, vv x.2)),
    (Instr.findKey K (kv k) es).run P w = Result.ok ((idx m k 0).map fun x => (x.1, vv x.2)) w := by
  obtain ⟨d, hd, hf⟩ := hK.find
  intro es m h
  have now : ∀ (hn : ∀ x y, Instr.sameNow d (kv x) (kv y) = some (decide (x = y))) (es : List MapEntry) (m : List (κ × ν)) (i : Nat), es.map (fun e => (e.key, e.val)) = m.map (fun x => (kv x.1, vv x.2)) →
      Instr.findNow d (kv k) es i = some ((idx m k i).map fun x => (x.1, vv x.2)) := by
    intro hn es
    induction es with
    | nil => intro m i h; cases m with | nil => rfl | cons x r => simp at h
    | cons e r ih =>
      intro m i h
      cases m with
      | nil => simp at h
      | cons x r' =>
        simp only [List.map_cons, List.cons.injEq, Prod.mk.injEq] at h
        obtain ⟨⟨h1, h2⟩, h3⟩ := h
        obtain ⟨x1, x2⟩ := x
        unfold Instr.findNow idx
        rw [h1, hn]
        by_cases e : k = x1
        · simp [e, h2]
        · simp [e, ih r' (i + 1) h3]
  unfold Instr.findKey
  simp only [Sem.run_bind, Go.underlying]
  simp only [Sem.run_bind, run_program, Result.andThen_ok, hd, Sem.run_pure]
  rcases hf with hn | ⟨hn, ha⟩
  · rw [now hn es m 0 h]; rfl
  · have ask : ∀ (es : List MapEntry) (m : List (κ × ν)) (i : Nat), es.map (fun e => (e.key, e.val)) = m.map (fun x => (kv x.1, vv x.2)) →
        (Instr.findAsking K (kv k) es i).run P w = Result.ok ((idx m k i).map fun x => (x.1, vv x.2)) w := by
      intro es
      induction es with
      | nil => intro m i h; cases m with | nil => rfl | cons x r => simp at h
      | cons e r ih =>
        intro m i h
        cases m with
        | nil => simp at h
        | cons x r' =>
          simp only [List.map_cons, List.cons.injEq, Prod.mk.injEq] at h
          obtain ⟨⟨h1, h2⟩, h3⟩ := h
          obtain ⟨x1, x2⟩ := x
          unfold Instr.findAsking idx
          rw [h1]
          simp only [Sem.run_bind, ha, Result.andThen_ok]
          by_cases e : k = x1
          · simp [e, h2]
          · simp [e, ih r' (i + 1) h3]
    cases es with
    | nil =>
      cases m with
      | nil => rfl
      | cons x r => simp at h
    | cons e r =>
      cases m with
      | nil => simp at h
      | cons x r' =>
        have h' := h
        simp only [List.map_cons, List.cons.injEq, Prod.mk.injEq] at h'
        have : Instr.findNow d (kv k) (e :: r) 0 = none := by
          unfold Instr.findNow
          rw [h'.1.1, hn]
        rw [this]
        exact ask _ _ 0 h
theorem Ents.map {es : List MapEntry} {clk : Nat} {m : List (κ × ν)} (h : Ents kv vv es clk m) : es.map (fun e => (e.key, e.val)) = m.map fun x => (kv x.1, vv x.2) := by
  apply List.ext_getElem?
  intro i
  simp only [List.getElem?_map]
  cases hm : m[i]? with
  | none =>
    have : es[i]? = none := by rw [List.getElem?_eq_none_iff, h.len]; exact List.getElem?_eq_none_iff.1 hm
    rw [this]; rfl
  | some x =>
    obtain ⟨b, hb, _⟩ := h.at_ i x.1 x.2 hm
    rw [hb]; rfl
def MapO (kv : κ → Value) (vv : ν → Value) (w : World) (r : Nat) (m : List (κ × ν)) : Prop := ∃ es clk, w.heap[r]? = some (.map es.toArray clk) ∧ Ents kv vv es clk m
theorem MapO.lt {w : World} {r : Nat} {m : List (κ × ν)} (h : MapO kv vv w r m) : r < w.heap.size := by
  obtain ⟨es, clk, h1, _⟩ := h
  exact (Array.getElem?_eq_some_iff.1 h1).1
theorem MapO.ext {w w' : World} {r : Nat} {m : List (κ × ν)} (h : MapO kv vv w r m) (e : Ext w w') : MapO kv vv w' r m := by
  have := h.lt
  obtain ⟨es, clk, h1, h2⟩ := h
  exact ⟨es, clk, (Below.block e r this).trans h1, h2⟩
theorem MapO.from {w w' : World} {r : Nat} {m : List (κ × ν)} (e : Ext w w') (h : MapO kv vv w r m) : MapO kv vv w' r m := h.ext e
theorem MapO.upd {w w' : World} {r b : Nat} {m : List (κ × ν)} (h : MapO kv vv w r m) (u : Upd b w w') (hne : r ≠ b) : MapO kv vv w' r m := by
  obtain ⟨es, clk, h1, h2⟩ := h
  exact ⟨es, clk, (u.block r hne).trans h1, h2⟩
theorem MapO.grow {w w' : World} {A : Option Addr} {r : Nat} {m : List (κ × ν)} (h : MapO kv vv w r m) (g : Grow A w w') (hne : obk A ≠ some r) : MapO kv vv w' r m := by
  have := h.lt
  obtain ⟨es, clk, h1, h2⟩ := h
  exact ⟨es, clk, (g.block r this fun e => hne (by rw [e, obk_eq])).trans h1, h2⟩
theorem MapO.ne_blk {w : World} {r b : Nat} {m : List (κ × ν)} {t : TypeId} {cs : List Value} (h : MapO kv vv w r m) (hb : Blk w b t cs) : r ≠ b := by
  intro e; subst e
  obtain ⟨es, clk, h1, _⟩ := h
  unfold Blk at hb
  rw [h1] at hb; simp at hb
variable {T : Tab} {w : World} {k : Value → World → Prop} {X : List PanicEntry → World → Prop}
theorem upd_set (w : World) (r : Nat) (o : Obj) : Upd r w { w with heap := w.heap.setIfInBounds r o } :=
  ⟨rfl, rfl, rfl, by simp, fun j hj => by
    show (w.heap.setIfInBounds r o)[j]? = w.heap[j]?
    rw [Array.getElem?_setIfInBounds, if_neg (fun e : r = j => hj e.symm)]⟩
theorem Sm.mkmap {t : TypeId} (hk : ∀ r w', w.heap.size = r → MapO kv vv w' r ([] : List (κ × ν)) → Ext w w' → k (.map (some r)) w') : Sm P (Instr.makeMap t none) w k X := by
  refine ⟨?_⟩
  have : (Instr.makeMap t none).run P w = Result.ok (.map (some w.heap.size)) (w.alloc (.map #[] 0)) := by simp [Instr.makeMap]
  rw [this]
  refine hk _ _ rfl ⟨[], 0, ?_, ⟨rfl, fun i k v h => by simp at h, fun i j a b _ h => by simp at h⟩⟩ (Ext.alloc w _)
  show (w.heap.push _)[w.heap.size]? = _; simp
theorem Sm.lkp (hT : TabOk P T) {t E : TypeId} {ti ei : TI} {r : Nat} {x : κ} {m : List (κ × ν)} {z : ν} (ht : getT T.ts t = some ti) (hd : ti.desc = .map K E) (he : getT T.ts E = some ei) (hz : ei.zero = vv z)
    (hK : KeyOK P K kv) (h : MapO kv vv w r m) (hk : k (.tuple #[vv ((fnd m x).getD z), .bool (fnd m x).isSome]) w) : Sm P (Instr.lookup t (.map (some r)) (kv x) true) w k X := by
  obtain ⟨es, clk, h1, h2⟩ := h
  refine ⟨?_⟩
  have : (Instr.lookup t (.map (some r)) (kv x) true).run P w = Result.ok (.tuple #[vv ((fnd m x).getD z), .bool (fnd m x).isSome]) w := by
    simp only [Instr.lookup, Sem.run_bind, run_und hT.1 ht, hd, Result.andThen_ok]
    have hg : (getObj r).run P w = Result.ok (.map es.toArray clk) w := by simp [getObj, Sem.run, h1]
    simp only [hg, Result.andThen_ok, Sem.run_bind, Sem.run_pure]
    rw [hK.check]
    simp only [Result.andThen_ok]
    rw [run_findKey (vv := vv) hK x w es m h2.map, ← idx_fnd x m 0]
    simp only [Result.andThen_ok]
    cases hi : idx m x 0 with
    | none => simp [run_zero hT.1 he, hz]
    | some y => simp
  rw [this]; exact hk
theorem Sm.lkp1 (hT : TabOk P T) {t E : TypeId} {ti ei : TI} {r : Nat} {x : κ} {m : List (κ × ν)} {z : ν} (ht : getT T.ts t = some ti) (hd : ti.desc = .map K E) (he : getT T.ts E = some ei) (hz : ei.zero = vv z)
    (hK : KeyOK P K kv) (h : MapO kv vv w r m) (hk : k (vv ((fnd m x).getD z)) w) : Sm P (Instr.lookup t (.map (some r)) (kv x) false) w k X := by
  obtain ⟨es, clk, h1, h2⟩ := h
  refine ⟨?_⟩
  have : (Instr.lookup t (.map (some r)) (kv x) false).run P w = Result.ok (vv ((fnd m x).getD z)) w := by
    simp only [Instr.lookup, Sem.run_bind, run_und hT.1 ht, hd, Result.andThen_ok]
    have hg : (getObj r).run P w = Result.ok (.map es.toArray clk) w := by simp [getObj, Sem.run, h1]
    simp only [hg, Result.andThen_ok, Sem.run_bind, Sem.run_pure]
    rw [hK.check]
    simp only [Result.andThen_ok]
    rw [run_findKey (vv := vv) hK x w es m h2.map, ← idx_fnd x m 0]
    simp only [Result.andThen_ok]
    cases hi : idx m x 0 with
    | none => simp [run_zero hT.1 he, hz]
    | some y => simp
  rw [this]; exact hk
def mput (m : List (κ × ν)) (x : κ) (v : ν) : List (κ × ν) := match idx m x 0 with | some (i, _) => m.set i (x, v) | none => m ++ [(x, v)]
theorem SmU.mput (hT : TabOk P T) {t E : TypeId} {ti : TI} {r : Nat} {x : κ} {v : ν} {m : List (κ × ν)} {ku : World → Prop} (ht : getT T.ts t = some ti) (hd : ti.desc = .map K E)
    (hK : KeyOK P K kv) (h : MapO kv vv w r m) (hk : ∀ w', Upd r w w' → MapO kv vv w' r (mput m x v) → ku w') : SmU P (Instr.mapUpdate t (.map (some r)) (kv x) (vv v)) w ku X := by
  have hlt := h.lt
  obtain ⟨es, clk, h1, h2⟩ := h
  refine ⟨?_⟩
  have hg : (getObj r).run P w = Result.ok (.map es.toArray clk) w := by simp [getObj, Sem.run, h1]
  have hset : ∀ o, (setObj r o).run P w = Result.ok () { w with heap := w.heap.setIfInBounds r o } := fun o => by simp [setObj, Sem.run, h1]
  have hnew : ∀ o : Obj, ({ w with heap := w.heap.setIfInBounds r o } : World).heap[r]? = some o := fun o => by simp [hlt]
  cases hi : idx m x 0 with
  | none =>
    have : (Instr.mapUpdate t (.map (some r)) (kv x) (vv v)).run P w = Result.ok () { w with heap := w.heap.setIfInBounds r (.map (es.toArray.push ⟨kv x, vv v, clk⟩) (clk + 1)) } := by
      simp only [Instr.mapUpdate, Sem.run_bind, run_und hT.1 ht, hd, Result.andThen_ok, hg, hK.check, run_findKey (vv := vv) hK x w es m h2.map, hi, Option.map_none, hset]
    rw [this]
    refine hk _ (upd_set w r _) ⟨es ++ [⟨kv x, vv v, clk⟩], clk + 1, (hnew _).trans (by simp), ?_⟩
    unfold Go.Sh.mput
    rw [hi]
    refine ⟨by simp [h2.len], fun i k' v' hm => ?_, fun i j a b hij ha hb => ?_⟩
    · rcases Nat.lt_or_ge i m.length with hlt' | hge
      · rw [List.getElem?_append_left hlt'] at hm
        obtain ⟨b, hb, hc⟩ := h2.at_ i k' v' hm
        exact ⟨b, by rw [List.getElem?_append_left (by rw [h2.len]; exact hlt')]; exact hb, by omega⟩
      · rw [List.getElem?_append_right hge] at hm
        have hi0 : i - m.length = 0 := by
          rcases Nat.eq_zero_or_pos (i - m.length) with h0 | h0
          · exact h0
          · rw [List.getElem?_eq_none (by simp; omega)] at hm; simp at hm
        rw [hi0] at hm; simp at hm
        obtain ⟨rfl, rfl⟩ := hm
        exact ⟨clk, by rw [List.getElem?_append_right (by rw [h2.len]; exact hge), h2.len, hi0]; rfl, by omega⟩
    · have hjl := (List.getElem?_eq_some_iff.1 hb).1
      simp at hjl
      rcases Nat.lt_or_ge j es.length with h3 | h3
      · rw [List.getElem?_append_left h3] at hb
        rw [List.getElem?_append_left (by omega)] at ha
        exact h2.inc i j a b hij ha hb
      · have : j = es.length := by omega
        subst this
        rw [List.getElem?_append_right (Nat.le_refl _)] at hb
        simp at hb; subst hb
        rw [List.getElem?_append_left hij] at ha
        have hil : i < m.length := by rw [← h2.len]; exact hij
        obtain ⟨b, hb, hc⟩ := h2.at_ i m[i].1 m[i].2 (by rw [List.getElem?_eq_getElem hil])
        rw [ha] at hb; simp at hb; subst hb; exact hc
  | some y =>
    obtain ⟨i, v0⟩ := y
    obtain ⟨_, hm⟩ := idx_some x m 0 i v0 hi
    simp only [Nat.sub_zero] at hm
    obtain ⟨b, hb, hc⟩ := h2.at_ i x v0 hm
    have hil := (List.getElem?_eq_some_iff.1 hb).1
    have : (Instr.mapUpdate t (.map (some r)) (kv x) (vv v)).run P w = Result.ok () { w with heap := w.heap.setIfInBounds r (.map (es.toArray.modify i fun e => { e with key := kv x, val := vv v }) clk) } := by
      have hks : (Instr.keyThatStays (kv x) (kv x)).run P w = Result.ok (kv x) w := by simp [Instr.keyThatStays, hK.bits]
      have he : ((es.toArray[i]?).map (·.key)).getD (kv x) = kv x := by simp [hb]
      simp only [Instr.mapUpdate, Sem.run_bind, run_und hT.1 ht, hd, Result.andThen_ok, hg, hK.check, run_findKey (vv := vv) hK x w es m h2.map, hi, Option.map_some, he, hks, hset]
    rw [this]
    have hmod : (es.toArray.modify i fun e => { e with key := kv x, val := vv v }) = (es.set i ⟨kv x, vv v, b⟩).toArray := by
      apply Array.ext'
      apply List.ext_getElem?
      intro j
      simp only [Array.getElem?_toList, Array.getElem?_modify, List.getElem?_toArray, List.getElem?_set]
      by_cases e : i = j
      · subst e; rw [if_pos rfl, if_pos rfl, if_pos hil, hb]; rfl
      · simp [e]
    refine hk _ (upd_set w r _) ⟨es.set i ⟨kv x, vv v, b⟩, clk, (hnew _).trans (by rw [hmod]), ?_⟩
    unfold Go.Sh.mput
    rw [hi]
    refine ⟨by simp [h2.len], fun j k' v' hm' => ?_, fun j l a c hjl ha hc' => ?_⟩
    · rw [List.getElem?_set] at hm' ⊢
      by_cases e : i = j
      · subst e
        simp only [if_true] at hm' ⊢
        rw [if_pos (by rw [← h2.len]; exact hil)] at hm'
        simp at hm'; obtain ⟨rfl, rfl⟩ := hm'
        exact ⟨b, by simp [hil], hc⟩
      · rw [if_neg e] at hm' ⊢
        exact h2.at_ j k' v' hm'
    · have key : ∀ (j : Nat) (a : MapEntry), (es.set i ⟨kv x, vv v, b⟩)[j]? = some a → ∃ a', es[j]? = some a' ∧ a'.born = a.born := by
        intro j a ha
        rw [List.getElem?_set] at ha
        by_cases e : i = j
        · subst e
          simp [hil] at ha; subst ha
          exact ⟨_, hb, rfl⟩
        · rw [if_neg e] at ha
          exact ⟨a, ha, rfl⟩
      obtain ⟨a', ha', e1⟩ := key j a ha
      obtain ⟨c', hc'', e2⟩ := key l c hc'
      rw [← e1, ← e2]
      exact h2.inc j l a' c' hjl ha' hc''
end
end Go.Sh
namespace Go.Sh
set_option linter.unusedSectionVars false
set_option linter.unusedVariables false
set_option linter.unusedSimpArgs false
open Go.RowKit
section
variable {α : Type} {enc : α → List Value} {sz : Nat} {e : TypeId} {w w' : World} {B : Nat} {A : Option Addr} {c : Nat} {l : List α}
/-- a slice of the call's own, which may begin in the middle of its block -/
structure Que (enc : α → List Value) (sz : Nat) (e : TypeId) (w : World) (B : Nat) (A : Option Addr) (c : Nat) (l : List α) : Prop where
  sizes : ∀ x ∈ l, (enc x).length = sz
  le : l.length ≤ c
  place : (A = none ∧ c = 0) ∨ ∃ b off cs, A = some ⟨b, off, none⟩ ∧ B ≤ b ∧ Blk w b e cs ∧ off + c * sz ≤ cs.length ∧ ∀ j v, (l.flatMap enc)[j]? = some v → cs[off + j]? = some v
theorem Que.nil : Que enc sz e w B none 0 ([] : List α) := ⟨by simp, by simp, .inl ⟨rfl, rfl⟩⟩
theorem Que.of_blk {p off : Nat} {cs : List Value} (hb : Blk w p e cs) (hB : B ≤ p) (hl : ∀ x ∈ l, (enc x).length = sz) (hc : l.length ≤ c) (hcs : off + c * sz ≤ cs.length) (hat : ∀ j v, (l.flatMap enc)[j]? = some v → cs[off + j]? = some v) :
    Que enc sz e w B (some ⟨p, off, none⟩) c l := ⟨hl, hc, .inr ⟨p, off, cs, rfl, hB, hb, hcs, hat⟩⟩
theorem flat_len (h : ∀ x ∈ l, (enc x).length = sz) : (l.flatMap enc).length = l.length * sz := by
  induction l with
  | nil => simp
  | cons x r ih =>
    simp only [List.flatMap_cons, List.length_append, List.length_cons]
    rw [ih (fun y hy => h y (by simp [hy])), h x (by simp), Nat.add_mul]; omega
theorem Que.of_full {p : Nat} (hb : Blk w p e (l.flatMap enc)) (hB : B ≤ p) (hl : ∀ x ∈ l, (enc x).length = sz) : Que enc sz e w B (some ⟨p, 0, none⟩) l.length l :=
  .of_blk hb hB hl (Nat.le_refl _) (by rw [flat_len hl]; omega) fun j v h => by rw [Nat.zero_add]; exact h
theorem Que.ext (h : Que enc sz e w B A c l) (x : Ext w w') : Que enc sz e w' B A c l := by
  refine ⟨h.sizes, h.le, ?_⟩
  rcases h.place with h1 | ⟨b, off, cs, hA, hB, hb, r⟩
  · exact .inl h1
  · exact .inr ⟨b, off, cs, hA, hB, hb.ext x, r⟩
theorem Que.from (x : Ext w w') (h : Que enc sz e w B A c l) : Que enc sz e w' B A c l := h.ext x
theorem Que.upd {b : Nat} (h : Que enc sz e w B A c l) (u : Upd b w w') (hne : obk A ≠ some b) : Que enc sz e w' B A c l := by
  refine ⟨h.sizes, h.le, ?_⟩
  rcases h.place with h1 | ⟨b', off, cs, hA, hB, hb, r⟩
  · exact .inl h1
  · refine .inr ⟨b', off, cs, hA, hB, hb.upd u fun e => hne (by rw [hA, e]; rfl), r⟩
theorem Que.grow {A2 : Option Addr} (h : Que enc sz e w B A c l) (g : Grow A2 w w') (hne : obk A = none ∨ obk A ≠ obk A2) : Que enc sz e w' B A c l := by
  refine ⟨h.sizes, h.le, ?_⟩
  rcases h.place with h1 | ⟨b', off, cs, hA, hB, hb, r⟩
  · exact .inl h1
  · refine .inr ⟨b', off, cs, hA, hB, hb.grow' g fun e => ?_, r⟩
    rcases hne with h2 | h2
    · rw [hA] at h2; simp [obk] at h2
    · exact h2 (by rw [e, hA]; rfl)
theorem Que.obk_lt (h : Que enc sz e w B A c l) : ∀ k, obk A = some k → k < w.heap.size ∧ B ≤ k := by
  intro k hk
  rcases h.place with ⟨rfl, _⟩ | ⟨b, off, cs, rfl, hB, hb, _⟩
  · simp [obk] at hk
  · simp [obk] at hk; subst hk; exact ⟨hb.lt, hB⟩
theorem Que.ne_t {b : Nat} {t : TypeId} {cs : List Value} (h : Que enc sz e w B A c l) (hb : Blk w b t cs) (hne : t ≠ e) : obk A ≠ some b := by
  rcases h.place with ⟨rfl, _⟩ | ⟨b', off, cs, rfl, hB, hb', _⟩
  · simp [obk]
  · intro e'; simp [obk] at e'; subst e'; exact hb.ne hb' hne rfl
theorem Que.ne_map {κ ν : Type} [DecidableEq κ] {kv : κ → Value} {vv : ν → Value} {r : Nat} {m : List (κ × ν)} (h : Que enc sz e w B A c l) (hm : MapO kv vv w r m) : obk A ≠ some r := by
  rcases h.place with ⟨rfl, _⟩ | ⟨b', off, cs, rfl, hB, hb', _⟩
  · simp [obk]
  · intro e'; simp [obk] at e'; exact hm.ne_blk hb' e'.symm
theorem Grow.extQ {w0 : World} (x : Ext w0 w) (g : Grow A w w') (h : Que enc sz e w B A c l) (hB : w0.heap.size ≤ B) : Ext w0 w' :=
  Below.trans x ((Below.refl w0.heap.size w).grown g x.size fun k hk => Nat.le_trans hB (h.obk_lt k (by rw [obk_eq] at hk; exact hk)).2)
theorem Que.rd (h : Que enc sz e w B A c l) : RdS enc sz w A l := by
  rcases h.place with ⟨rfl, h0⟩ | ⟨b, off, cs, rfl, hB, hb, hl, hat⟩
  · have : l = [] := List.length_eq_zero_iff.1 (by have := h.le; omega)
    subst this; exact RdS.nil
  · refine ⟨fun _ => ⟨by simp, hb.lt⟩, fun i x hx => ⟨enc x, h.sizes x (List.mem_of_getElem? hx), rfl, fun j v hv => ?_⟩⟩
    simp only [gA]
    rw [add_lit, hb.cell]
    exact hat _ _ (flatMap_at h.sizes i x hx j v hv)
/-- where a slice begins when k places are cut off ahead -/
def cutA (A : Option Addr) (c k sz : Nat) : Option Addr := if c = k then A else A.map (·.add (k * sz))
theorem obk_cutA (A : Option Addr) (c k sz : Nat) : obk (cutA A c k sz) = obk A := by
  unfold cutA
  split
  · rfl
  · cases A with
    | none => rfl
    | some a => simp [obk, block_add]
theorem Que.cut {k : Nat} (h : Que enc sz e w B A c l) (hk : k ≤ l.length) : Que enc sz e w B (cutA A c k sz) (c - k) (l.drop k) := by
  have hle := h.le
  refine ⟨fun x hx => h.sizes x (List.mem_of_mem_drop hx), by simp; omega, ?_⟩
  rcases h.place with ⟨rfl, h0⟩ | ⟨b, off, cs, rfl, hB, hb, hl, hat⟩
  · refine .inl ⟨?_, by omega⟩
    unfold cutA; split <;> rfl
  · unfold cutA
    by_cases hck : c = k
    · rw [if_pos hck]
      have h0 : l.drop k = [] := List.drop_eq_nil_of_le (by omega)
      refine .inr ⟨b, off, cs, rfl, hB, hb, by rw [hck, Nat.sub_self, Nat.zero_mul]; rw [hck] at hl; omega, fun j v hv => ?_⟩
      rw [h0] at hv; simp at hv
    · rw [if_neg hck]
      refine .inr ⟨b, off + k * sz, cs, ?_, hB, hb, ?_, fun j v hv => ?_⟩
      · simp [add_lit]
      · have : c * sz = k * sz + (c - k) * sz := by rw [← Nat.add_mul]; congr 1; omega
        omega
      · rw [Nat.add_assoc]
        refine hat _ _ ?_
        have e1 : l.flatMap enc = (l.take k).flatMap enc ++ (l.drop k).flatMap enc := by rw [← List.flatMap_append, List.take_append_drop]
        have e2 : ((l.take k).flatMap enc).length = k * sz := by
          rw [flat_len (fun x hx => h.sizes x (List.mem_of_mem_take hx)), List.length_take, Nat.min_eq_left hk]
        rw [e1, List.getElem?_append_right (by omega), e2, Nat.add_sub_cancel_left]
        exact hv
theorem RdS.cut {k : Nat} (h : RdS enc sz w A l) (hk : k ≤ l.length) (hc : l.length ≤ c) : RdS enc sz w (cutA A c k sz) (l.drop k) := by
  by_cases hck : c = k
  · have h0 : l.drop k = [] := List.drop_eq_nil_of_le (by omega)
    rw [h0]; exact RdS.nil
  · unfold cutA
    rw [if_neg hck]
    refine ⟨fun hn => ?_, fun i x hx => ?_⟩
    · have hn' : l ≠ [] := fun e => by subst e; simp at hn
      obtain ⟨h1, h2⟩ := h.some hn'
      obtain ⟨a, rfl⟩ := Option.ne_none_iff_exists'.1 h1
      exact ⟨by simp, by simp only [Option.map_some, gA] at h2 ⊢; rw [block_add]; exact h2⟩
    · rw [List.getElem?_drop] at hx
      obtain ⟨vs, g1, g2, g3⟩ := h.at_ _ x hx
      refine ⟨vs, g1, g2, fun j v hv => ?_⟩
      have hn' : l ≠ [] := fun e => by subst e; simp at hx
      obtain ⟨h1, h2⟩ := h.some hn'
      obtain ⟨a, rfl⟩ := Option.ne_none_iff_exists'.1 h1
      have := g3 j v hv
      simp only [Option.map_some, gA] at this ⊢
      rw [add_add, ← Nat.add_assoc, ← Nat.add_mul]
      exact this
theorem RdS.take {k : Nat} (h : RdS enc sz w A l) : RdS enc sz w A (l.take k) := by
  refine ⟨fun hn => h.some (fun e => by subst e; simp at hn), fun i x hx => h.at_ i x ?_⟩
  rw [List.getElem?_take] at hx
  split at hx
  · exact hx
  · simp at hx
variable {P : Program} {T : Tab} {k : Value → World → Prop} {Y : List PanicEntry → World → Prop}
theorem run_slice_of (hT : TabOk P T) {t : TypeId} {ti ei : TI} {n : Nat} (ht : getT T.ts t = some ti) (hd : ti.desc = .slice e) (he : getT T.ts e = some ei) (hsz : ei.size = sz) (lo hi : Option Value) :
    (Instr.sliceAt t (.slice A n c) lo hi none).run P w = ((Instr.sliceBounds true n c lo hi none).run P w).andThen fun b w => .ok (.slice (if b.2.2 = b.1 then A else A.map (·.add (b.1 * sz))) (b.2.1 - b.1) (b.2.2 - b.1)) w := by
  have hu := run_und hT.1 ht (w := w)
  have h1 : (Instr.sliceAt t (.slice A n c) lo hi none).run P w = (Instr.slice t (.slice A n c) lo hi none).run P w := by
    simp [Instr.sliceAt, hu, hd]
  rw [h1]
  simp only [Instr.slice, Sem.run_bind, hu, hd, Result.andThen_ok]
  cases hb : (Instr.sliceBounds true n c lo hi none).run P w with
  | ok b w1 => simp [Result.andThen, run_size hT.1 he, hsz]
  | halt x w1 => simp [Result.andThen]
theorem run_bound {kl : IntKind} {i y : Nat} {cd : BoundsCode} (h : i ≤ y) : (Instr.sliceBound (.int kl (i : Int)) y cd).run P w = .ok i w := by
  simp [Instr.sliceBound, asIntOf, h]
/-- l[k:] -/
theorem Sm.cutLo (hT : TabOk P T) {t : TypeId} {ti ei : TI} {n i : Nat} {kl : IntKind} {a : Int} (ht : getT T.ts t = some ti) (hd : ti.desc = .slice e) (he : getT T.ts e = some ei) (hsz : ei.size = sz)
    (ha : a = (i : Int)) (hi : i ≤ n) (hk : k (.slice (cutA A c i sz) (n - i) (c - i)) w) : Sm P (Instr.sliceAt t (.slice A n c) (some (.int kl a)) none none) w k Y := by
  subst ha
  refine ⟨?_⟩
  have hb : (Instr.sliceBounds true n c (some (.int kl (i : Int))) none none).run P w = .ok (i, n, c) w := by
    simp [Instr.sliceBounds, run_bound hi]
  rw [run_slice_of hT ht hd he hsz, hb]
  exact hk
/-- l[:k] -/
theorem Sm.cutHi (hT : TabOk P T) {t : TypeId} {ti ei : TI} {n i : Nat} {kl : IntKind} {a : Int} (ht : getT T.ts t = some ti) (hd : ti.desc = .slice e) (he : getT T.ts e = some ei) (hsz : ei.size = sz)
    (ha : a = (i : Int)) (hi : i ≤ c) (hk : k (.slice A i c) w) : Sm P (Instr.sliceAt t (.slice A n c) none (some (.int kl a)) none) w k Y := by
  subst ha
  refine ⟨?_⟩
  have hb : (Instr.sliceBounds true n c none (some (.int kl (i : Int))) none).run P w = .ok (0, i, c) w := by
    simp [Instr.sliceBounds, run_bound hi]
  rw [run_slice_of hT ht hd he hsz, hb]
  simp only [Result.andThen_ok, Nat.zero_mul, Nat.sub_zero]
  have : (if c = 0 then A else A.map (·.add 0)) = A := by
    split
    · rfl
    · cases A with
      | none => rfl
      | some a => simp [Addr.add]
  rw [this]; exact hk
/-- l[i:j] -/
theorem Sm.cutLH (hT : TabOk P T) {t : TypeId} {ti ei : TI} {n i j : Nat} {kl kh : IntKind} {a b : Int} (ht : getT T.ts t = some ti) (hd : ti.desc = .slice e) (he : getT T.ts e = some ei) (hsz : ei.size = sz)
    (ha : a = (i : Int)) (hb : b = (j : Int)) (hi : i ≤ j) (hj : j ≤ c) (hk : k (.slice (cutA A c i sz) (j - i) (c - i)) w) : Sm P (Instr.sliceAt t (.slice A n c) (some (.int kl a)) (some (.int kh b)) none) w k Y := by
  subst ha hb
  refine ⟨?_⟩
  have hbd : (Instr.sliceBounds true n c (some (.int kl (i : Int))) (some (.int kh (j : Int))) none).run P w = .ok (i, j, c) w := by
    simp [Instr.sliceBounds, run_bound hi, run_bound hj]
  rw [run_slice_of hT ht hd he hsz, hbd]
  exact hk
theorem src_cells {X : Addr} {m : List α} (hpos : 0 < sz) (hr : RdS enc sz w (some X) m) (hm : ∀ x ∈ m, (enc x).length = sz) : ∀ j u, (m.flatMap enc)[j]? = some u → w.cell? (X.add j) = some u := by
  intro j u hu
  have hjl := (List.getElem?_eq_some_iff.1 hu).1
  rw [flat_len hm] at hjl
  have hq : j / sz < m.length := Nat.div_lt_of_lt_mul (by rw [Nat.mul_comm]; exact hjl)
  obtain ⟨vs, g1, g2, g3⟩ := hr.at_ (j / sz) m[j / sz] (List.getElem?_eq_getElem hq)
  unfold Fl at g2
  subst g2
  have hr := Nat.mod_lt j hpos
  have hx : (enc m[j / sz])[j % sz]? = some ((enc m[j / sz])[j % sz]'(by rw [g1]; exact hr)) := List.getElem?_eq_getElem _
  have e1 := flatMap_at hm (j / sz) _ (List.getElem?_eq_getElem hq) (j % sz) _ hx
  have e2 := g3 (j % sz) _ hx
  have hdm : j / sz * sz + j % sz = j := by rw [Nat.mul_comm]; exact Nat.div_add_mod j sz
  rw [hdm] at e1 e2
  rw [hu] at e1
  simp only [gA] at e2
  rw [e2, ← e1]
/-- append(l, m...) with m not empty -/
theorem Sm.appQ (hT : TabOk P T) {t ty : TypeId} {ti ei : TI} {X : Option Addr} {m : List α} {n n2 c2 : Nat}
    (ht : getT T.ts t = some ti) (hd : ti.desc = .slice e) (he : getT T.ts e = some ei) (hsz : ei.size = sz) (hz : ei.zero.cells.size = sz) (hpos : 0 < sz)
    (h : Que enc sz e w B A c l) (hn : n = l.length) (hr : RdS enc sz w X m) (hn2 : n2 = m.length) (hne : m ≠ []) (hm : ∀ x ∈ m, (enc x).length = sz) (h1 : ∀ x ∈ m, ∀ v ∈ enc x, v.oneCell' = true)
    (hlen : (l.length + m.length) * ei.bytes ≤ 140737488355328) (hlen2 : l.length + m.length ≤ 140737488355328) (hB : B ≤ w.heap.size)
    (hk : ∀ A' c' w', Que enc sz e w' B A' c' (l ++ m) → Grow A w w' → (obk A' = obk A ∨ obk A' = some w.heap.size) → k (.slice A' (l ++ m).length c') w') : Sm P (Builtin.append_ #[t, t] ty #[.slice A n c, .slice X n2 c2]) w k Y := by
  subst hn hn2
  obtain ⟨j, hj, hjz, hjs, hjb⟩ := info_of hT.1 he
  have hu := (hT.1.get ht).1
  rw [hd] at hu
  have hjs' : j.size = sz := hjs.trans hsz
  have hfm := flat_len hm
  have hfl := flat_len h.sizes
  have hm0 : 0 < m.length := List.length_pos_iff.2 hne
  obtain ⟨ad, rfl⟩ : ∃ ad, X = some ad := Option.ne_none_iff_exists'.1 (hr.some hne).1
  have hnews := src_cells hpos hr hm
  have hall : ∀ x ∈ l ++ m, (enc x).length = sz := fun x hx => (List.mem_append.1 hx).elim (h.sizes x) (hm x)
  have h1' : ∀ u ∈ m.flatMap enc, u.oneCell' = true := fun u hu => by
    obtain ⟨x, hx, hv⟩ := List.mem_flatMap.1 hu
    exact h1 x hx u hv
  have grown : ∀ (c0 : Nat) (old : List Value), old = l.flatMap enc → l.length + m.length ≤ c0 → ∀ (p : Nat) (w2 : World), p = w.heap.size → w2 = w.drew.alloc (.cells (old.toArray ++ (m.flatMap enc).toArray ++ Builtin.zeroCells ei.zero.cells (c0 - (l.length + m.length))) e) →
      Que enc sz e w2 B (some ⟨p, 0, none⟩) c0 (l ++ m) ∧ Grow A w w2 := by
    rintro c0 _ rfl hc p w2 rfl rfl
    refine ⟨Que.of_blk (cs := l.flatMap enc ++ m.flatMap enc ++ (Builtin.zeroCells ei.zero.cells (c0 - (l.length + m.length))).toList) ?_ hB hall (by simp; omega) ?_ ?_, ⟨rfl, rfl, rfl, ?_, fun i hi _ => ?_⟩⟩
    · unfold Blk
      show (w.heap.push _)[w.heap.size]? = _
      simp
    · simp only [List.length_append, hfm, hfl, Array.length_toList, size_zeroCells, hz]
      rw [← Nat.add_mul, ← Nat.add_mul, Nat.zero_add]
      exact Nat.mul_le_mul_right _ (by omega)
    · intro j v hv
      rw [Nat.zero_add, ← List.flatMap_append, List.getElem?_append_left (List.getElem?_eq_some_iff.1 hv).1]
      exact hv
    · show w.heap.size ≤ (w.heap.push _).size
      simp
    · show (w.heap.push _)[i]? = _
      rw [Array.getElem?_push_lt hi, Array.getElem?_eq_getElem hi]
  have h63 : ((l.length + m.length : Nat) : Int) ≤ 9223372036854775807 := by omega
  refine ⟨?_⟩
  rcases h.place with ⟨rfl, rfl⟩ | ⟨b, off, cs, rfl, hBb, hb, hcl, hat⟩
  · have hl0 : l = [] := List.length_eq_zero_iff.1 (by have := h.le; omega)
    subst hl0
    simp only [List.length_nil, Nat.zero_add] at hlen h63 ⊢
    rw [run_append_nil w t ty e j ei.zero hu hj hjz ad m.length c2 (m.flatMap enc) (by rw [hfm, hjs']) hnews hm0 h63 (by rw [hjb]; omega)]
    obtain ⟨g1, g2⟩ := grown (grownCap w m.length 0 e) [] rfl (by simp; exact grownCap_ge _ _ _ _) _ (w.drew.alloc (.cells ((m.flatMap enc).toArray ++ Builtin.zeroCells ei.zero.cells (grownCap w m.length 0 e - m.length)) e)) rfl (by simp)
    have := hk _ _ _ g1 g2 (.inr rfl)
    simpa using this
  · by_cases hroom : l.length + m.length ≤ c
    · have hf := run_firstCells_some (P := P) w j.size m.length ad m.length c2 (m.flatMap enc) (by rw [hfm, hjs']) hnews
      have hfit : off + l.length * sz + (m.flatMap enc).length ≤ cs.length := by
        rw [hfm]
        have := Nat.mul_le_mul_right sz hroom
        rw [Nat.add_mul] at this
        omega
      have hst := run_storeCells_sh (P := P) ((⟨b, off, none⟩ : Addr).add (l.length * sz)) (m.flatMap enc) 0 w h1' (fun i hi => by
        rw [add_add, add_lit]
        refine ⟨?_, hb.frozen _ rfl⟩
        rw [hb.cell]
        exact ⟨cs[off + (l.length * sz + (0 + i))]'(by omega), List.getElem?_eq_getElem (by omega)⟩)
      have hrun : (Builtin.append_ #[t, t] ty #[.slice (some ⟨b, off, none⟩) l.length c, .slice (some ad) m.length c2]).run P w = .ok (.slice (some ⟨b, off, none⟩) (l.length + m.length) c) (setCells w ((⟨b, off, none⟩ : Addr).add (l.length * sz)) (m.flatMap enc) 0) := by
        simp [Builtin.append_, run_underlying hu, sizeOf, typeInfo, hj, Builtin.lenOf, hroom, hf]
        rw [hjs', hst]
        simp
      rw [hrun]
      have hblk := setCells_blk (b := b) (o := off + l.length * sz) (m.flatMap enc) cs 0 w hb (by simpa using hfit)
      have hup := setCells_heap (⟨b, off + l.length * sz, none⟩) (m.flatMap enc) 0 w
      rw [add_lit]
      have hq : Que enc sz e (setCells w ⟨b, off + l.length * sz, none⟩ (m.flatMap enc) 0) B (some ⟨b, off, none⟩) c (l ++ m) := by
        refine Que.of_blk hblk hBb hall (by simp; omega) ?_ ?_
        · simp only [putL, List.length_append, List.length_take, List.length_drop, Nat.add_zero]
          omega
        · intro i v hv
          unfold putL
          rw [List.flatMap_append] at hv
          simp only [Nat.add_zero]
          have hil := (List.getElem?_eq_some_iff.1 hv).1
          simp only [List.length_append, hfl, hfm] at hil
          rw [List.append_assoc]
          rcases Nat.lt_or_ge i (l.length * sz) with hi | hi
          · rw [List.getElem?_append_left (by rw [hfl]; exact hi)] at hv
            rw [List.getElem?_append_left (by simp; omega), List.getElem?_take_of_lt (by omega)]
            exact hat i v hv
          · rw [List.getElem?_append_right (by rw [hfl]; exact hi), hfl] at hv
            rw [List.getElem?_append_right (by simp; omega), List.length_take, Nat.min_eq_left (by omega), show off + i - (off + l.length * sz) = i - l.length * sz by omega, List.getElem?_append_left (by rw [hfm]; omega)]
            exact hv
      have := hk _ _ _ hq ⟨hup.os, hup.tape, hup.output, Nat.le_of_eq hup.size.symm, fun i _ hne => hup.block i fun e' => hne (by rw [e']; rfl)⟩ (.inl rfl)
      simpa using this
    · have hgw : c < l.length + m.length := by omega
      have holds : ∀ j v, (l.flatMap enc)[j]? = some v → w.cell? ((⟨b, off, none⟩ : Addr).add j) = some v := fun j v hv => by
        rw [add_lit, hb.cell]
        exact hat j v hv
      rw [run_append_grow w t ty e j ei.zero hu hj hjz ⟨b, off, none⟩ l.length c (l.flatMap enc) (by rw [hfl, hjs']) holds ad m.length c2 (m.flatMap enc) (by rw [hfm, hjs']) hnews hgw h63 (growslice_fits hgw (by rw [hjb]; exact hlen))]
      obtain ⟨g1, g2⟩ := grown (grownCap w (l.length + m.length) c e) _ rfl (grownCap_ge _ _ _ _) _ _ rfl rfl
      have := hk _ _ _ g1 g2 (.inr rfl)
      simpa using this
end
section
variable {P : Program} {κ ν : Type} [DecidableEq κ] {K : TypeId} {kv : κ → Value} {vv : ν → Value} {w w' : World} {r b : Nat} {m : List (κ × ν)} {ix : List Nat}
def bornAt (es : List MapEntry) (i : Nat) : Nat := (es[i]?.map (·.born)).getD 0
/-- a loop over a map under way: the entries at ix have been told -/
def Iter (kv : κ → Value) (vv : ν → Value) (w : World) (r b : Nat) (m : List (κ × ν)) (ix : List Nat) : Prop :=
  ∃ es clk since seen c0, w.heap[b]? = some (.map es.toArray clk) ∧ Ents kv vv es clk m ∧ w.heap[r]? = some (.mapIter (some b) since seen c0) ∧ (∀ x ∈ es, x.born < since) ∧ since ≤ c0 ∧
    seen.toList = ix.map (bornAt es) ∧ ix.Nodup ∧ (∀ i ∈ ix, i < m.length) ∧ (ix ≠ [] → c0 = clk) ∧ since ≤ clk
theorem Ents.born_lt {es : List MapEntry} {clk : Nat} (h : Ents kv vv es clk m) : ∀ x ∈ es, x.born < clk := by
  intro x hx
  obtain ⟨i, hi⟩ := List.getElem?_of_mem hx
  have hlt := (List.getElem?_eq_some_iff.1 hi).1
  have hm : i < m.length := by rw [← h.len]; exact hlt
  obtain ⟨b, hb, hc⟩ := h.at_ i m[i].1 m[i].2 (by rw [List.getElem?_eq_getElem hm])
  rw [hi] at hb; simp at hb; subst hb; exact hc
theorem Ents.born_inj {es : List MapEntry} {clk : Nat} (h : Ents kv vv es clk m) {i j : Nat} {x y : MapEntry} (hi : es[i]? = some x) (hj : es[j]? = some y) (e : x.born = y.born) : i = j := by
  rcases Nat.lt_trichotomy i j with h1 | h1 | h1
  · have := h.inc i j x y h1 hi hj; omega
  · exact h1
  · have := h.inc j i y x h1 hj hi; omega
theorem Iter.lt (h : Iter kv vv w r b m ix) : r < w.heap.size ∧ b < w.heap.size := by
  obtain ⟨es, clk, since, seen, c0, h1, _, h3, _⟩ := h
  exact ⟨(Array.getElem?_eq_some_iff.1 h3).1, (Array.getElem?_eq_some_iff.1 h1).1⟩
theorem Iter.ext (h : Iter kv vv w r b m ix) (e : Ext w w') : Iter kv vv w' r b m ix := by
  obtain ⟨l1, l2⟩ := h.lt
  obtain ⟨es, clk, since, seen, c0, h1, h2, h3, h4⟩ := h
  exact ⟨es, clk, since, seen, c0, (Below.block e b l2).trans h1, h2, (Below.block e r l1).trans h3, h4⟩
theorem Iter.from (e : Ext w w') (h : Iter kv vv w r b m ix) : Iter kv vv w' r b m ix := h.ext e
theorem Iter.upd {c : Nat} (h : Iter kv vv w r b m ix) (u : Upd c w w') (hr : r ≠ c) (hb : b ≠ c) : Iter kv vv w' r b m ix := by
  obtain ⟨es, clk, since, seen, c0, h1, h2, h3, h4⟩ := h
  exact ⟨es, clk, since, seen, c0, (u.block b hb).trans h1, h2, (u.block r hr).trans h3, h4⟩
theorem Iter.ne_blk {q : Nat} {t : TypeId} {cs : List Value} (h : Iter kv vv w r b m ix) (hq : Blk w q t cs) : r ≠ q ∧ b ≠ q := by
  obtain ⟨es, clk, since, seen, c0, h1, h2, h3, h4⟩ := h
  unfold Blk at hq
  refine ⟨fun e => ?_, fun e => ?_⟩
  · subst e; rw [h3] at hq; simp at hq
  · subst e; rw [h1] at hq; simp at hq
theorem Sm.range {T : Tab} {t E : TypeId} {ti : TI} {k : Value → World → Prop} {Y : List PanicEntry → World → Prop} (hT : TabOk P T) (ht : getT T.ts t = some ti) (hd : ti.desc = .map K E) (h : MapO kv vv w b m)
    (hk : ∀ r w', w.heap.size = r → Ext w w' → Iter kv vv w' r b m [] → k (.pointer (some ⟨r, 0, none⟩)) w') : Sm P (Instr.range t (.map (some b))) w k Y := by
  have hlt := h.lt
  obtain ⟨es, clk, h1, h2⟩ := h
  have hu := (hT.1.get ht).1
  rw [hd] at hu
  refine ⟨?_⟩
  rw [run_range_map w t K E b es.toArray clk hu h1]
  refine hk _ _ rfl (Ext.alloc w _) ⟨es, clk, clk, #[], clk, (Below.block (Ext.alloc w _) b hlt).trans h1, h2, ?_, h2.born_lt, Nat.le_refl _, rfl, List.nodup_nil, by simp, by simp, Nat.le_refl _⟩
  show (w.heap.push _)[w.heap.size]? = _
  simp
theorem Sm.next {ty : TypeId} {k : Value → World → Prop} {Y : List PanicEntry → World → Prop} (h : Iter kv vv w r b m ix) (h0 : (∀ i, i < m.length → i ∈ ix) → k (.tuple #[.bool false]) w)
    (h1 : ∀ i x w', m[i]? = some x → i ∉ ix → Upd r w w' → Iter kv vv w' r b m (ix ++ [i]) → k (.tuple #[.bool true, kv x.1, vv x.2]) w') : Sm P (Instr.next (.pointer (some ⟨r, 0, none⟩)) false ty) w k Y := by
  obtain ⟨es, clk, since, seen, c0, hb, hE, hr, hs, hsc, hse, hnd, hin, hc0, hsk⟩ := h
  have hne : r ≠ b := fun e => by rw [e, hb] at hr; simp at hr
  have hmem : ∀ i x, es[i]? = some x → (x.born ∈ seen ↔ i ∈ ix) := by
    intro i x hx
    rw [← Array.mem_toList_iff, hse, List.mem_map]
    refine ⟨fun ⟨j, hj, e⟩ => ?_, fun hi => ⟨i, hi, by simp [bornAt, hx]⟩⟩
    have hjl : j < es.length := by rw [hE.len]; exact hin j hj
    have hy : es[j]? = some es[j] := List.getElem?_eq_getElem hjl
    have e2 : es[j].born = x.born := by rw [← e]; simp [bornAt, hy]
    have := hE.born_inj hy hx e2
    exact this ▸ hj
  refine ⟨?_⟩
  rcases run_next_at (P := P) w ty r b since c0 seen es.toArray clk hr hb (by simpa using hs) hsc with ⟨hz, hrun⟩ | ⟨e, he, w1, hw1, hrun⟩
  · rw [hrun]
    refine h0 fun i hi => ?_
    have hil : i < es.length := by rw [hE.len]; exact hi
    have hx : es[i]? = some es[i] := List.getElem?_eq_getElem hil
    refine (hmem i _ hx).1 ?_
    have hempty : leftOf es.toArray seen = #[] := Array.eq_empty_of_size_eq_zero hz
    unfold leftOf at hempty
    rw [Array.filter_eq_empty_iff] at hempty
    have := hempty es[i] (by simp)
    simpa using this
  · rw [hrun]
    have hl : e ∈ es ∧ e.born ∉ seen := by
      unfold leftOf at he
      simp at he
      exact ⟨he.1, he.2⟩
    obtain ⟨i, hi⟩ := List.getElem?_of_mem hl.1
    have him : i < m.length := by rw [← hE.len]; exact (List.getElem?_eq_some_iff.1 hi).1
    obtain ⟨bb, hbb, _⟩ := hE.at_ i m[i].1 m[i].2 (by rw [List.getElem?_eq_getElem him])
    rw [hi] at hbb
    simp only [Option.some.injEq] at hbb
    have hni : i ∉ ix := fun h => hl.2 ((hmem i e hi).2 h)
    have hheap : w1.heap = w.heap := by rcases hw1 with rfl | rfl <;> rfl
    have hupd : Upd r w (ChangeMaps.setBlock w1 r (.mapIter (some b) since (seen.push e.born) clk)) := by
      refine ⟨?_, ?_, ?_, ?_, fun j hj => ?_⟩
      · rcases hw1 with rfl | rfl <;> rfl
      · rcases hw1 with rfl | rfl <;> rfl
      · rcases hw1 with rfl | rfl <;> rfl
      · simp [ChangeMaps.setBlock, hheap]
      · show (w1.heap.setIfInBounds r _)[j]? = w.heap[j]?
        rw [Array.getElem?_setIfInBounds, if_neg (fun e : r = j => hj e.symm), hheap]
    have hkey : e.key = kv m[i].1 ∧ e.val = vv m[i].2 := by rw [hbb]; exact ⟨rfl, rfl⟩
    rw [hkey.1, hkey.2]
    refine h1 i m[i] _ (List.getElem?_eq_getElem him) hni hupd ⟨es, clk, since, seen.push e.born, clk, (hupd.block b (fun e => hne e.symm)).trans hb, hE, ?_, hs, by omega, ?_, ?_, ?_, fun _ => rfl, hsk⟩
    · show (w1.heap.setIfInBounds r _)[r]? = _
      rw [hheap]
      simp [(Array.getElem?_eq_some_iff.1 hr).1]
    · simp [hse, bornAt, hi]
    · rw [List.nodup_append]
      exact ⟨hnd, by simp, fun a ha c hc => by simp at hc; subst hc; exact fun e => hni (e ▸ ha)⟩
    · intro j hj
      rcases List.mem_append.1 hj with hj | hj
      · exact hin j hj
      · simp at hj; subst hj; exact him
theorem Sm.entry {i : Nat} {x : κ × ν} {k : Value → World → Prop} {Y : List PanicEntry → World → Prop} (h : Iter kv vv w r b m (ix ++ [i])) (hx : m[i]? = some x) (hk : k (.tuple #[kv x.1, vv x.2]) w) :
    Sm P (Instr.entry (.pointer (some ⟨r, 0, none⟩))) w k Y := by
  obtain ⟨es, clk, since, seen, c0, hb, hE, hr, hs, hsc, hse, hnd, hin, hc0, hsk⟩ := h
  have hc := hc0 (by simp)
  subst hc
  obtain ⟨bb, hbb, _⟩ := hE.at_ i x.1 x.2 hx
  have hseen : seen = (ix.map (bornAt es)).toArray.push bb := by
    apply Array.ext'
    rw [hse]
    simp [bornAt, hbb]
  rw [hseen] at hr
  have hnd' : (es.map (·.born)).Nodup := by
    rw [List.nodup_iff_pairwise_ne, List.pairwise_iff_getElem]
    intro a c ha hc hac
    simp at ha hc
    simp only [List.getElem_map]
    have := hE.inc a c es[a] es[c] hac (List.getElem?_eq_getElem ha) (List.getElem?_eq_getElem hc)
    omega
  refine ⟨?_⟩
  have := run_entry_at (P := P) w r b since (ix.map (bornAt es)).toArray es.toArray c0 ⟨kv x.1, vv x.2, bb⟩ hr hb (by simpa using List.mem_of_getElem? hbb) (by simpa using hnd')
  rw [this]
  exact hk
end
end Go.Sh
namespace Go.Sh
open Go.RowKit
section
variable {P : Program} {T : List (Nat × TI)} {w : World}
theorem run_check_struct {t : TypeId} {fs : Array Field} {cs : Array Value} {b : Bool} {n : Nat} (hu : P.underlying t = some (.struct fs))
    (hf : ∀ f ∈ fs.toList, ∃ v, (part f.type cs f.offset).run P w = .ok v w ∧ (Instr.checkKey b n f.type v).run P w = .ok () w) : (Instr.checkKey b (n + 1) t (.agg cs)).run P w = .ok () w := by
  unfold Instr.checkKey
  simp only [Sem.run_bind, run_underlying hu, Result.andThen_ok]
  rw [← Array.forIn_toList]
  generalize fs.toList = l at hf
  clear hu
  induction l with
  | nil => simp
  | cons f r ih =>
    obtain ⟨v, h1, h2⟩ := hf f (by simp)
    have := ih (fun g hg => hf g (by simp [hg]))
    by_cases hn : f.name = "_"
    · simpa [hn] using this
    · simpa [hn, h1, h2] using this
theorem run_check_int {t : TypeId} {q : IntKind} {v : Value} {b : Bool} {n : Nat} (hu : P.underlying t = some (.int q)) : (Instr.checkKey b (n + 1) t v).run P w = .ok () w := by
  simp [Instr.checkKey, run_underlying hu]
end
theorem keyOK_struct {P : Program} {T : Tab} {κ : Type} [DecidableEq κ] {kv : κ → Value} (hT : TabOk P T) {K : TypeId} {ti : TI} {fs : Array Field} (ht : getT T.ts K = some ti) (hd : ti.desc = .struct fs)
    (hf : ∀ x, ∃ cs, kv x = .agg cs ∧ ∀ f ∈ fs.toList, ∃ v fi q, partF T.ts f.type cs.toList f.offset = some v ∧ getT T.ts f.type = some fi ∧ fi.desc = .int q)
    (heq : ∀ x y, eqF T.ts 8 K (kv x) (kv y) = some (decide (x = y))) (hbits : ∀ x, Instr.sameBits 10000 (kv x) (kv x) = true) : KeyOK P K kv := by
  have hu := (hT.1.get ht).1
  rw [hd] at hu
  refine ⟨fun b x w => ?_, ⟨_, hu, .inr ⟨fun x y => ?_, fun x y w => ?_⟩⟩, hbits⟩
  · obtain ⟨cs, hx, h⟩ := hf x
    rw [hx, show (10000 : Nat) = 9998 + 1 + 1 from rfl]
    refine run_check_struct hu fun f hm => ?_
    obtain ⟨v, fi, q, h1, h2, h3⟩ := h f hm
    have hq := (hT.1.get h2).1
    rw [h3] at hq
    exact ⟨v, run_part hT.1 w h1, run_check_int hq⟩
  · obtain ⟨cs, hx, _⟩ := hf x
    rw [hx]; rfl
  · exact run_eqF hT.1 8 _ (by decide) K _ _ _ w (heq x y)
end Go.Sh
namespace Go.Proofs.YtbbadmlekagloaaDoor
open Go Go.Sh
attribute [local irreducible] Blk Ext RdS
def IsIntsC (l : List Int) (w : World) (v : Value) (w' : World) : Prop := ∃ A c, v = .slice A l.length c ∧ RdS ints 1 w' A l ∧ Ext w w' ∧ Fresh w A
theorem nx_lt {f : Fn} (h : soundB f = true) {i k : Nat} {x : Ins} (hx : f.code[i]? = some x) (hk : x.kd = k) (h10 : k < 10) (hn : (rowOf k).nx = true) : i + 1 < f.code.length ∧ nextsS i x = if k = 4 then [(i : Int) + 1, x.b] else [(i : Int) + 1] := by
  have hr := next_range h hx ((i : Int) + 1)
  have : k = 0 ∨ k = 1 ∨ k = 2 ∨ k = 3 ∨ k = 4 ∨ k = 5 ∨ k = 6 ∨ k = 7 ∨ k = 8 ∨ k = 9 := by omega
  rcases this with rfl | rfl | rfl | rfl | rfl | rfl | rfl | rfl | rfl | rfl <;> simp [rowOf] at hn <;> simp [nextsS, hk] at hr ⊢ <;> omega
theorem nx_no {i k : Nat} {x : Ins} (hk : x.kd = k) (h10 : k < 10) (hn : (rowOf k).nx = false) : nextsS i x = if k = 3 then [x.a] else [] := by
  have : k = 0 ∨ k = 1 ∨ k = 2 ∨ k = 3 ∨ k = 4 ∨ k = 5 ∨ k = 6 ∨ k = 7 ∨ k = 8 ∨ k = 9 := by omega
  rcases this with rfl | rfl | rfl | rfl | rfl | rfl | rfl | rfl | rfl | rfl <;> simp [rowOf] at hn <;> simp [nextsS, hk]
theorem kd_range {f : Fn} (h : soundB f = true) {i : Nat} {x : Ins} (hx : f.code[i]? = some x) : ∃ k : Nat, x.kd = k ∧ k < 10 := by
  simp only [soundB, Bool.and_eq_true, List.all_eq_true] at h
  have ha := h.1.2 x (List.mem_of_getElem? hx)
  have : ¬ (x.kd < 0 ∨ 10 ≤ x.kd) := fun hr => by rw [instr_range hr] at ha; exact absurd ha (by simp)
  exact ⟨x.kd.toNat, by omega, by omega⟩
theorem follow_c (f : Fn) (A : Option Addr) (c : Nat) (i : Nat) (x : Ins) (w : World) (hA : RdC w A f.code) (hG : RdG w) (hx : f.code[i]? = some x) (hS : soundB f = true) :
    Cl Tryd.prog 80 #[f.v A c, .int .i64 (i : Int)] w (IsIntsC (nextsS i x) w) (fun _ _ => False) := by
  have hsh : shapedB f = true := by simp only [soundB, Bool.and_eq_true] at hS; exact hS.1.1
  obtain ⟨hl1, hl2⟩ := shaped_len hsh
  obtain ⟨k, hk, hk10⟩ := kd_range hS hx
  have hrow : rows10[k]? = some (rowOf k) := by simp [rows10, hk10]
  have hlt := (List.getElem?_eq_some_iff.1 hx).1
  have hw1 : IntKind.i64.wrap ((i : Int) + 1) = (i : Int) + 1 := w64 rfl (by omega) (by omega)
  have hyes : (rowOf k).nx = true → (i : Int) + 1 < f.code.length ∧ x.kd ≠ 3 := fun hn => by
    have := (nx_lt hS hx hk hk10 hn).1
    refine ⟨by omega, fun e => ?_⟩
    have : k = 3 := by omega
    subst this; simp [rowOf] at hn
  have hno : (rowOf k).nx = false → x.kd ≠ 4 := fun hn e => by
    have : k = 4 := by omega
    subst this; simp [rowOf] at hn
  refine calls_ex (args := [f.v A c, .int .i64 (i : Int)]) T.ok Tryd.func80 rfl rfl rfl rfl ?_
  repeat' (first | ((show Gd _ _ _; first | with_reducible refine Gd.t ?_ | with_reducible refine Gd.f ?_ | with_reducible refine Gd.dec (fun _ => ?_) (fun _ => ?_) | with_reducible refine Gd.beq (fun _ => ?_) (fun _ => ?_) | with_reducible refine Gd.bne (fun _ => ?_) (fun _ => ?_) | with_reducible refine Gd.not ?_ | refine Gd.t ?_ | refine Gd.f ?_ | with_reducible refine Gd.var (fun _ => ?_) (fun _ => ?_)) <;> first | (exfalso; omega) | skip) | (first | (show Gd _ _ _; first | with_reducible refine Gd.t ?_ | with_reducible refine Gd.f ?_ | with_reducible refine Gd.dec (fun _ => ?_) (fun _ => ?_) | with_reducible refine Gd.beq (fun _ => ?_) (fun _ => ?_) | with_reducible refine Gd.bne (fun _ => ?_) (fun _ => ?_) | with_reducible refine Gd.not ?_ | refine Gd.t ?_ | refine Gd.f ?_ | with_reducible refine Gd.var (fun _ => ?_) (fun _ => ?_)) | (show Sq _ _ _; refine Sq.mk ?_) | (show Ld1 _ _ _; first | (apply Ld1.blk; (focus ((repeat (first | assumption | (apply Blk.from; assumption))); done)); rfl) | (apply Ld1.rsF; (focus ((repeat (first | assumption | (apply RdS.from; assumption))); done)); assumption; rfl) | (apply Ld1.rs; (focus ((repeat (first | assumption | (apply RdS.from; assumption))); done)); assumption; rfl)) | (show Ld _ _ _ _; first | (apply Ld.blk; (focus ((repeat (first | assumption | (apply Blk.from; assumption))); done)); rfl) | (apply Ld.rs; (focus ((repeat (first | assumption | (apply RdS.from; assumption))); done)); assumption)) | (show Ix _ _ _ _ _; first | (apply Ix.rs; (focus ((repeat (first | assumption | (apply RdS.from; assumption))); done)); (first | with_reducible rfl | assumption); (first | assumption | omega)) | (apply Ix.arr; (focus ((repeat (first | assumption | (apply RdS.from; assumption))); done)); (first | assumption | (simp; done)); (first | with_reducible rfl | assumption); (first | assumption | omega))) | (show Al _ _ _ _; refine Al.mk (fun _ _ _ _ _ _ => ?_)) | (show St _ _ _ _; apply St.new; assumption; assumption; assumption; rfl; rfl; intro _ _ _ _)) | (show Ix _ _ _ _ _; apply Ix.arr; (focus ((repeat (first | assumption | (apply RdS.from; assumption))); done)); rfl; exact hk; exact hk10))
  all_goals (try (exfalso; have h0 := hyes (by assumption); omega))
  all_goals (try (exfalso; exact hno (by assumption) (by assumption)))
  · -- it may go on
    rename_i px wx _ hbx _ _ _ _ _ _ _ _ wy ey hby _ hn hlt1
    obtain ⟨_, hnx⟩ := nx_lt hS hx hk hk10 hn
    have h3 := (hyes hn).2
    have hO : Own ints 1 3 wy w.heap.size none 0 ([] : List Int) := Own.nil
    (refine Sm.lit T.ok (cs := [.int .i64 ((i : Int) + 1)]) rfl rfl rfl rfl (by first | rfl | (rw [hw1]; rfl)) rfl rfl (fun p1 w1 hp1 hb1 e1 _ => ?_); have hr1 := rd_of_blk (l := [(i : Int) + 1]) hb1 (by simp); refine Sm.app (enc := ints) (m := [(i : Int) + 1]) T.ok rfl rfl rfl rfl rfl Nat.zero_lt_one (Own.ext hO e1) rfl hr1 rfl (fun _ _ => rfl) (fun y _ v hv => by simp [ints] at hv; subst hv; rfl) (by first | (simp; done) | (simp; decide)) (by simp) (Ext.size (w := w) (by (repeat (first | exact Ext.refl _ | assumption | (apply Ext.from; assumption))))) (fun A2 c2 w2 ho2 g2 hB2 => ?_); have e2 := Grow.ext (w0 := w) (by (repeat (first | exact Ext.refl _ | assumption | (apply Ext.from; assumption)))) g2 (Own.ext hO e1) (Nat.le_refl _))
    have hF2 : Fresh w A2 := fun b hb => (ho2.obk_lt b hb).2
    have hby2 := (hby.ext e1).grow g2 (Own.ext hO e1) (by decide)
    repeat' (first | ((show Gd _ _ _; first | with_reducible refine Gd.t ?_ | with_reducible refine Gd.f ?_ | with_reducible refine Gd.dec (fun _ => ?_) (fun _ => ?_) | with_reducible refine Gd.beq (fun _ => ?_) (fun _ => ?_) | with_reducible refine Gd.bne (fun _ => ?_) (fun _ => ?_) | with_reducible refine Gd.not ?_ | refine Gd.t ?_ | refine Gd.f ?_ | with_reducible refine Gd.var (fun _ => ?_) (fun _ => ?_)) <;> first | (exfalso; omega) | skip) | (first | (show Gd _ _ _; first | with_reducible refine Gd.t ?_ | with_reducible refine Gd.f ?_ | with_reducible refine Gd.dec (fun _ => ?_) (fun _ => ?_) | with_reducible refine Gd.beq (fun _ => ?_) (fun _ => ?_) | with_reducible refine Gd.bne (fun _ => ?_) (fun _ => ?_) | with_reducible refine Gd.not ?_ | refine Gd.t ?_ | refine Gd.f ?_ | with_reducible refine Gd.var (fun _ => ?_) (fun _ => ?_)) | (show Sq _ _ _; refine Sq.mk ?_) | (show Ld1 _ _ _; first | (apply Ld1.blk; (focus ((repeat (first | assumption | (apply Blk.from; assumption))); done)); rfl) | (apply Ld1.rsF; (focus ((repeat (first | assumption | (apply RdS.from; assumption))); done)); assumption; rfl) | (apply Ld1.rs; (focus ((repeat (first | assumption | (apply RdS.from; assumption))); done)); assumption; rfl)) | (show Ld _ _ _ _; first | (apply Ld.blk; (focus ((repeat (first | assumption | (apply Blk.from; assumption))); done)); rfl) | (apply Ld.rs; (focus ((repeat (first | assumption | (apply RdS.from; assumption))); done)); assumption)) | (show Ix _ _ _ _ _; first | (apply Ix.rs; (focus ((repeat (first | assumption | (apply RdS.from; assumption))); done)); (first | with_reducible rfl | assumption); (first | assumption | omega)) | (apply Ix.arr; (focus ((repeat (first | assumption | (apply RdS.from; assumption))); done)); (first | assumption | (simp; done)); (first | with_reducible rfl | assumption); (first | assumption | omega))) | (show Al _ _ _ _; refine Al.mk (fun _ _ _ _ _ _ => ?_)) | (show St _ _ _ _; apply St.new; assumption; assumption; assumption; rfl; rfl; intro _ _ _ _)))
    · rename_i h4
      have e4 : k = 4 := by omega
      rw [if_pos e4] at hnx
      have hO4 := ho2
      (refine Sm.lit T.ok (cs := [.int .i64 (x.b)]) rfl rfl rfl rfl (by first | rfl | (rw [hw1]; rfl)) rfl rfl (fun p1 w1 hp1 hb1 e1 _ => ?_); have hr1 := rd_of_blk (l := [x.b]) hb1 (by simp); refine Sm.app (enc := ints) (m := [x.b]) T.ok rfl rfl rfl rfl rfl Nat.zero_lt_one (Own.ext hO4 e1) rfl hr1 rfl (fun _ _ => rfl) (fun y _ v hv => by simp [ints] at hv; subst hv; rfl) (by first | (simp; done) | (simp; decide)) (by simp) (Ext.size (w := w) (by (repeat (first | exact Ext.refl _ | assumption | (apply Ext.from; assumption))))) (fun A2 c2 w2 ho2 g2 hB2 => ?_); have e2 := Grow.ext (w0 := w) (by (repeat (first | exact Ext.refl _ | assumption | (apply Ext.from; assumption)))) g2 (Own.ext hO4 e1) (Nat.le_refl _))
      have hF4 : Fresh w A2 := fun b hb => (ho2.obk_lt b hb).2
      exact ⟨A2, c2, by rw [hnx]; rfl, by rw [hnx]; exact ho2.rd, e2, hF4⟩
    · rename_i h4
      have e4 : k ≠ 4 := by omega
      rw [if_neg e4] at hnx
      exact ⟨A2, c2, by rw [hnx]; rfl, by rw [hnx]; exact ho2.rd, e2, hF2⟩
  · rename_i wy _ _ _ hn h3
    have hO : Own ints 1 3 wy w.heap.size none 0 ([] : List Int) := Own.nil
    have hnx := nx_no (i := i) hk hk10 hn
    rw [if_pos (by omega)] at hnx
    (refine Sm.lit T.ok (cs := [.int .i64 (x.a)]) rfl rfl rfl rfl (by first | rfl | (rw [hw1]; rfl)) rfl rfl (fun p1 w1 hp1 hb1 e1 _ => ?_); have hr1 := rd_of_blk (l := [x.a]) hb1 (by simp); refine Sm.app (enc := ints) (m := [x.a]) T.ok rfl rfl rfl rfl rfl Nat.zero_lt_one (Own.ext hO e1) rfl hr1 rfl (fun _ _ => rfl) (fun y _ v hv => by simp [ints] at hv; subst hv; rfl) (by first | (simp; done) | (simp; decide)) (by simp) (Ext.size (w := w) (by (repeat (first | exact Ext.refl _ | assumption | (apply Ext.from; assumption))))) (fun A2 c2 w2 ho2 g2 hB2 => ?_); have e2 := Grow.ext (w0 := w) (by (repeat (first | exact Ext.refl _ | assumption | (apply Ext.from; assumption)))) g2 (Own.ext hO e1) (Nat.le_refl _))
    have hF2 : Fresh w A2 := fun b hb => (ho2.obk_lt b hb).2
    exact ⟨A2, c2, by rw [hnx]; rfl, by rw [hnx]; exact ho2.rd, e2, hF2⟩
  · rename_i wy _ _ _ hn h3 h4
    have hnx := nx_no (i := i) hk hk10 hn
    rw [if_neg (by omega)] at hnx
    exact ⟨none, 0, by rw [hnx]; rfl, by rw [hnx]; exact RdS.nil, by (repeat (first | exact Ext.refl _ | assumption | (apply Ext.from; assumption))), fresh_none⟩
end Go.Proofs.YtbbadmlekagloaaDoor
