/- layer prog: rows that may be none at all; the law's fill, grow and filled; own work. -/
import Derived.Test.YtbbadmlekagloaaDoorPgJ
import Derived.Test.YtbbadmlekagloaaDoorShP
namespace Go.Proofs.YtbbadmlekagloaaDoor
open Go Go.Sh
attribute [local irreducible] Blk Ext RdS
/-- n rows of m numbers each, or no rows at all -/
def MX (w : World) (B : Nat) (A : Option Addr) (n m : Nat) (ps : List Nat) (g : Nat → Nat → Int) : Prop := (A = none ∧ n = 0 ∧ ps = []) ∨ ∃ p, A = some ⟨p, 0, none⟩ ∧ ps.length = n ∧ Mx w B p n m ps g
section
variable {w w' : World} {B n m : Nat} {A : Option Addr} {ps : List Nat} {g g' : Nat → Nat → Int}
theorem MX.len (h : MX w B A n m ps g) : ps.length = n := by
  rcases h with ⟨_, rfl, rfl⟩ | ⟨p, _, h, _⟩
  · rfl
  · exact h
theorem MX.ext (h : MX w B A n m ps g) (e : Ext w w') : MX w' B A n m ps g := by
  rcases h with h | ⟨p, h1, h2, h3⟩
  · exact .inl h
  · exact .inr ⟨p, h1, h2, h3.ext e⟩
theorem MX.congr (h : MX w B A n m ps g) (hg : ∀ i j, i < n → j < m → g i j = g' i j) : MX w B A n m ps g' := by
  rcases h with h | ⟨p, h1, h2, h3⟩
  · exact .inl h
  · exact .inr ⟨p, h1, h2, h3.congr hg⟩
theorem MX.row (h : MX w B A n m ps g) {i q : Nat} (hq : ps[i]? = some q) : Blk w q 3 ((rowL m (g i)).flatMap ints) := by
  rcases h with ⟨_, _, rfl⟩ | ⟨p, _, _, h⟩
  · simp at hq
  · exact h.row i q hq
theorem MX.nodup (h : MX w B A n m ps g) : ps.Nodup := by
  rcases h with ⟨_, _, rfl⟩ | ⟨p, _, _, h⟩
  · simp
  · exact h.nodup
theorem MX.lo (h : MX w B A n m ps g) : ∀ q ∈ ps, B ≤ q := by
  rcases h with ⟨_, _, rfl⟩ | ⟨p, _, _, h⟩
  · simp
  · exact h.lo
theorem MX.hi (h : MX w B A n m ps g) : ∀ q ∈ ps, q < w.heap.size := fun q hq => by
  obtain ⟨i, hi⟩ := List.getElem?_of_mem hq
  exact (h.row hi).lt
theorem MX.top (h : MX w B A n m ps g) : ∀ b, obk A = some b → B ≤ b ∧ b < w.heap.size ∧ b ∉ ps := by
  rcases h with ⟨rfl, _, rfl⟩ | ⟨p, rfl, _, h⟩
  · intro b hb; simp [obk] at hb
  · intro b hb
    simp [obk] at hb; subst hb
    exact ⟨h.plo, h.top.lt, fun hm => h.ne_p p hm rfl⟩
theorem MX.rd (h : MX w B A n m ps g) (hn : n ≤ 140737488355328) : ∃ cs : List Value, RdS vals 1 w A cs ∧ cs.length = n ∧ ∀ (i q : Nat), ps[i]? = some q → cs[i]? = some (rowV m q) := by
  rcases h with ⟨rfl, rfl, rfl⟩ | ⟨p, rfl, hl, h⟩
  · exact ⟨[], RdS.nil, rfl, fun i q hq => by simp at hq⟩
  · exact ⟨_, h.rd hn, h.len, fun i q hq => h.at hq⟩
theorem MX.tch {S : Nat → Prop} (h : MX w B A n m ps g) (t : Tch S w w') (hp : ∀ b, obk A = some b → ¬ S b) (hq : ∀ q ∈ ps, ¬ S q) : MX w' B A n m ps g := by
  rcases h with h | ⟨p, rfl, hl, h⟩
  · exact .inl h
  · exact .inr ⟨p, rfl, hl, ⟨h.top.tch t (hp p rfl), h.le, fun i q hi => (h.row i q hi).tch t (hq q (List.mem_of_getElem? hi)), h.nodup, h.lo, h.plo⟩⟩
theorem MX.set {i j q : Nat} {v : Int} (h : MX w B A n m ps g) (hq : ps[i]? = some q) (u : Upd q w w') (hb : Blk w' q 3 (((rowL m (g i)).set j v).flatMap ints)) : MX w' B A n m ps (put2 g i j v) := by
  rcases h with ⟨_, _, rfl⟩ | ⟨p, h1, h2, h⟩
  · simp at hq
  · exact .inr ⟨p, h1, h2, h.set hq u hb⟩
def matL (n m : Nat) (g : Nat → Nat → Int) : List (List Int) := (List.range n).map fun i => rowL m (g i)
theorem matL_len (n m : Nat) (g : Nat → Nat → Int) : (matL n m g).length = n := by simp [matL]
theorem MX.nest (h : MX w B A n m ps g) (hn : n ≤ 140737488355328) (hm : m ≤ 140737488355328) : Nest w A (matL n m g) := by
  obtain ⟨cs, h1, h2, h3⟩ := h.rd hn
  refine ⟨cs, h1, by rw [h2, matL_len], fun i l hl => ?_⟩
  have hi : i < n := by have := (List.getElem?_eq_some_iff.1 hl).1; rw [matL_len] at this; exact this
  obtain ⟨q, hq⟩ : ∃ q, ps[i]? = some q := ⟨_, List.getElem?_eq_getElem (by rw [h.len]; exact hi)⟩
  simp [matL, hi] at hl
  subst hl
  refine ⟨by rw [rowL_len]; exact hm, some ⟨q, 0, none⟩, m, ?_, rd_of_blk (h.row hq) (by rw [rowL_len]; exact hm)⟩
  rw [h3 i q hq, rowL_len]; rfl
end
/-- the rows ahead of i are marked, and of row i the places ahead of k -/
def mark (x : Int) (g : Nat → Nat → Int) (i k : Nat) : Nat → Nat → Int := fun i' j => if i' < i ∨ (i' = i ∧ j < k) then x + i' else g i' j
theorem mark_put (x : Int) (g : Nat → Nat → Int) (i k : Nat) : put2 (mark x g i k) i k (x + i) = mark x g i (k + 1) := by
  funext i' j
  unfold put2 put1 mark
  by_cases e : i' = i
  · subst e
    by_cases e2 : j = k
    · subst e2; simp
    · have : (j < k) = (j < k + 1) := propext ⟨fun h => by omega, fun h => by omega⟩
      simp [e2, this]
  · simp [e]
theorem fill_c (A : Option Addr) (B n m : Nat) (ps : List Nat) (g : Nat → Nat → Int) (x : Int) (w : World) (h : MX w B A n m ps g) (hn : n ≤ 512) (hm : m ≤ 8) (hx : 0 ≤ x ∧ x ≤ 10000) :
    Cl Tryd.prog 19 #[.slice A n n, .int .i64 x] w (fun _ w' => MX w' B A n m ps (fun i _ => x + i) ∧ Tch (· ∈ ps) w w') (fun _ _ => False) := by
  refine calls_ex (args := [.slice A n n, .int .i64 x]) T.ok Tryd.func19 rfl rfl rfl rfl ?_
  repeat' (first | (show Gd _ _ _; first | with_reducible refine Gd.t ?_ | with_reducible refine Gd.f ?_ | with_reducible refine Gd.dec (fun _ => ?_) (fun _ => ?_) | with_reducible refine Gd.beq (fun _ => ?_) (fun _ => ?_) | with_reducible refine Gd.bne (fun _ => ?_) (fun _ => ?_) | with_reducible refine Gd.not ?_ | refine Gd.t ?_ | refine Gd.f ?_ | with_reducible refine Gd.var (fun _ => ?_) (fun _ => ?_)) | (show Sq _ _ _; refine Sq.mk ?_) | (show Ld1 _ _ _; first | (apply Ld1.blk; (focus ((repeat (first | assumption | (apply Blk.from; assumption))); done)); rfl) | (apply Ld1.rsF; (focus ((repeat (first | assumption | (apply RdS.from; assumption))); done)); assumption; rfl) | (apply Ld1.rs; (focus ((repeat (first | assumption | (apply RdS.from; assumption))); done)); assumption; rfl)) | (show Ld _ _ _ _; first | (apply Ld.blk; (focus ((repeat (first | assumption | (apply Blk.from; assumption))); done)); rfl) | (apply Ld.rs; (focus ((repeat (first | assumption | (apply RdS.from; assumption))); done)); assumption)) | (show Ix _ _ _ _ _; first | (apply Ix.rs; (focus ((repeat (first | assumption | (apply RdS.from; assumption))); done)); (first | with_reducible rfl | assumption); (first | assumption | omega)) | (apply Ix.arr; (focus ((repeat (first | assumption | (apply RdS.from; assumption))); done)); (first | assumption | (simp; done)); (first | with_reducible rfl | assumption); (first | assumption | omega))) | (show Al _ _ _ _; refine Al.mk (fun _ _ _ _ _ _ => ?_)) | (show St _ _ _ _; apply St.new; assumption; assumption; assumption; rfl; rfl; intro _ _ _ _))
  refine Lp.g0 T.ok (σ := Nat) (fun i => [(4, .int .i64 (i : Int)), (0, .slice A n n), (1, .int .i64 x)])
    (fun i w' => i ≤ n ∧ MX w' B A n m ps (mark x g i 0) ∧ Tch (· ∈ ps) w w') (fun i _ => n - i) 0 rfl ⟨rfl, rfl, rfl, trivial⟩ ⟨by omega, h.congr fun i j _ _ => by simp [mark], Tch.refl _ _⟩ ?_
  clear h
  rintro i w1 ⟨hi, h, t1⟩
  by_cases hin : i < n
  · repeat' (first | ((show Gd _ _ _; first | with_reducible refine Gd.t ?_ | with_reducible refine Gd.f ?_ | with_reducible refine Gd.dec (fun _ => ?_) (fun _ => ?_) | with_reducible refine Gd.beq (fun _ => ?_) (fun _ => ?_) | with_reducible refine Gd.bne (fun _ => ?_) (fun _ => ?_) | with_reducible refine Gd.not ?_ | refine Gd.t ?_ | refine Gd.f ?_ | with_reducible refine Gd.var (fun _ => ?_) (fun _ => ?_)) <;> first | (exfalso; omega) | skip) | (first | (show Gd _ _ _; first | with_reducible refine Gd.t ?_ | with_reducible refine Gd.f ?_ | with_reducible refine Gd.dec (fun _ => ?_) (fun _ => ?_) | with_reducible refine Gd.beq (fun _ => ?_) (fun _ => ?_) | with_reducible refine Gd.bne (fun _ => ?_) (fun _ => ?_) | with_reducible refine Gd.not ?_ | refine Gd.t ?_ | refine Gd.f ?_ | with_reducible refine Gd.var (fun _ => ?_) (fun _ => ?_)) | (show Sq _ _ _; refine Sq.mk ?_) | (show Ld1 _ _ _; first | (apply Ld1.blk; (focus ((repeat (first | assumption | (apply Blk.from; assumption))); done)); rfl) | (apply Ld1.rsF; (focus ((repeat (first | assumption | (apply RdS.from; assumption))); done)); assumption; rfl) | (apply Ld1.rs; (focus ((repeat (first | assumption | (apply RdS.from; assumption))); done)); assumption; rfl)) | (show Ld _ _ _ _; first | (apply Ld.blk; (focus ((repeat (first | assumption | (apply Blk.from; assumption))); done)); rfl) | (apply Ld.rs; (focus ((repeat (first | assumption | (apply RdS.from; assumption))); done)); assumption)) | (show Ix _ _ _ _ _; first | (apply Ix.rs; (focus ((repeat (first | assumption | (apply RdS.from; assumption))); done)); (first | with_reducible rfl | assumption); (first | assumption | omega)) | (apply Ix.arr; (focus ((repeat (first | assumption | (apply RdS.from; assumption))); done)); (first | assumption | (simp; done)); (first | with_reducible rfl | assumption); (first | assumption | omega))) | (show Al _ _ _ _; refine Al.mk (fun _ _ _ _ _ _ => ?_)) | (show St _ _ _ _; apply St.new; assumption; assumption; assumption; rfl; rfl; intro _ _ _ _)))
    refine Lp.g0 T.ok (σ := Nat) (fun k => [(5, .int .i64 (k : Int)), (4, .int .i64 (i : Int)), (0, .slice A n n), (1, .int .i64 x)])
      (fun k w' => k ≤ m ∧ MX w' B A n m ps (mark x g i k) ∧ Tch (· ∈ ps) w w') (fun k _ => m - k) 0 rfl ⟨rfl, rfl, rfl, rfl, trivial⟩ ⟨by omega, h, t1⟩ ?_
    clear h t1
    rintro k w2 ⟨hk, h, t2⟩
    obtain ⟨q, hq⟩ : ∃ q, ps[i]? = some q := ⟨_, List.getElem?_eq_getElem (by rw [h.len]; exact hin)⟩
    obtain ⟨cs, hrc, hcl, hca⟩ := h.rd (by omega)
    have hcq := hca i q hq
    have hrow := h.row hq
    have hrr := rd_of_blk hrow (by rw [rowL_len]; omega)
    by_cases hkm : k < m
    · repeat' (first | ((show Gd _ _ _; first | with_reducible refine Gd.t ?_ | with_reducible refine Gd.f ?_ | with_reducible refine Gd.dec (fun _ => ?_) (fun _ => ?_) | with_reducible refine Gd.beq (fun _ => ?_) (fun _ => ?_) | with_reducible refine Gd.bne (fun _ => ?_) (fun _ => ?_) | with_reducible refine Gd.not ?_ | refine Gd.t ?_ | refine Gd.f ?_ | with_reducible refine Gd.var (fun _ => ?_) (fun _ => ?_)) <;> first | (exfalso; omega) | skip) | (first | (show Gd _ _ _; first | with_reducible refine Gd.t ?_ | with_reducible refine Gd.f ?_ | with_reducible refine Gd.dec (fun _ => ?_) (fun _ => ?_) | with_reducible refine Gd.beq (fun _ => ?_) (fun _ => ?_) | with_reducible refine Gd.bne (fun _ => ?_) (fun _ => ?_) | with_reducible refine Gd.not ?_ | refine Gd.t ?_ | refine Gd.f ?_ | with_reducible refine Gd.var (fun _ => ?_) (fun _ => ?_)) | (show Sq _ _ _; refine Sq.mk ?_) | (show Ld1 _ _ _; first | (apply Ld1.blk; (focus ((repeat (first | assumption | (apply Blk.from; assumption))); done)); rfl) | (apply Ld1.rsF; (focus ((repeat (first | assumption | (apply RdS.from; assumption))); done)); assumption; rfl) | (apply Ld1.rs; (focus ((repeat (first | assumption | (apply RdS.from; assumption))); done)); assumption; rfl)) | (show Ld _ _ _ _; first | (apply Ld.blk; (focus ((repeat (first | assumption | (apply Blk.from; assumption))); done)); rfl) | (apply Ld.rs; (focus ((repeat (first | assumption | (apply RdS.from; assumption))); done)); assumption)) | (show Ix _ _ _ _ _; first | (apply Ix.rs; (focus ((repeat (first | assumption | (apply RdS.from; assumption))); done)); (first | with_reducible rfl | assumption); (first | assumption | omega)) | (apply Ix.arr; (focus ((repeat (first | assumption | (apply RdS.from; assumption))); done)); (first | assumption | (simp; done)); (first | with_reducible rfl | assumption); (first | assumption | omega))) | (show Al _ _ _ _; refine Al.mk (fun _ _ _ _ _ _ => ?_)) | (show St _ _ _ _; apply St.new; assumption; assumption; assumption; rfl; rfl; intro _ _ _ _)))
      (show Ix _ _ _ _ _; refine Ix.arr (i := k) hrr (rowL_len _ _) rfl (by rw [rowL_len]; exact hkm) ?_)
      have hwr : IntKind.i64.wrap (x + (i : Int)) = x + i := w64 rfl (by omega) (by omega)
      refine St.ints hrow (by rw [rowL_len]; exact hkm) fun w3 u3 hq3 => ?_
      rw [hwr] at hq3
      have h3 := h.set hq u3 hq3
      rw [mark_put] at h3
      have t3 := t2.upd u3 (.inl (List.mem_of_getElem? hq))
      repeat' (first | ((show Gd _ _ _; first | with_reducible refine Gd.t ?_ | with_reducible refine Gd.f ?_ | with_reducible refine Gd.dec (fun _ => ?_) (fun _ => ?_) | with_reducible refine Gd.beq (fun _ => ?_) (fun _ => ?_) | with_reducible refine Gd.bne (fun _ => ?_) (fun _ => ?_) | with_reducible refine Gd.not ?_ | refine Gd.t ?_ | refine Gd.f ?_ | with_reducible refine Gd.var (fun _ => ?_) (fun _ => ?_)) <;> first | (exfalso; omega) | skip) | (first | (show Gd _ _ _; first | with_reducible refine Gd.t ?_ | with_reducible refine Gd.f ?_ | with_reducible refine Gd.dec (fun _ => ?_) (fun _ => ?_) | with_reducible refine Gd.beq (fun _ => ?_) (fun _ => ?_) | with_reducible refine Gd.bne (fun _ => ?_) (fun _ => ?_) | with_reducible refine Gd.not ?_ | refine Gd.t ?_ | refine Gd.f ?_ | with_reducible refine Gd.var (fun _ => ?_) (fun _ => ?_)) | (show Sq _ _ _; refine Sq.mk ?_) | (show Ld1 _ _ _; first | (apply Ld1.blk; (focus ((repeat (first | assumption | (apply Blk.from; assumption))); done)); rfl) | (apply Ld1.rsF; (focus ((repeat (first | assumption | (apply RdS.from; assumption))); done)); assumption; rfl) | (apply Ld1.rs; (focus ((repeat (first | assumption | (apply RdS.from; assumption))); done)); assumption; rfl)) | (show Ld _ _ _ _; first | (apply Ld.blk; (focus ((repeat (first | assumption | (apply Blk.from; assumption))); done)); rfl) | (apply Ld.rs; (focus ((repeat (first | assumption | (apply RdS.from; assumption))); done)); assumption)) | (show Ix _ _ _ _ _; first | (apply Ix.rs; (focus ((repeat (first | assumption | (apply RdS.from; assumption))); done)); (first | with_reducible rfl | assumption); (first | assumption | omega)) | (apply Ix.arr; (focus ((repeat (first | assumption | (apply RdS.from; assumption))); done)); (first | assumption | (simp; done)); (first | with_reducible rfl | assumption); (first | assumption | omega))) | (show Al _ _ _ _; refine Al.mk (fun _ _ _ _ _ _ => ?_)) | (show St _ _ _ _; apply St.new; assumption; assumption; assumption; rfl; rfl; intro _ _ _ _)))
      exact ⟨k + 1, ⟨at_int (m := ((k + 1 : Nat) : Int)) rfl (w64 (by simp) (by omega) (by omega)), rfl, rfl, rfl, trivial⟩, rfl, ⟨by omega, h3, t3⟩, by omega⟩
    · repeat' (first | ((show Gd _ _ _; first | with_reducible refine Gd.t ?_ | with_reducible refine Gd.f ?_ | with_reducible refine Gd.dec (fun _ => ?_) (fun _ => ?_) | with_reducible refine Gd.beq (fun _ => ?_) (fun _ => ?_) | with_reducible refine Gd.bne (fun _ => ?_) (fun _ => ?_) | with_reducible refine Gd.not ?_ | refine Gd.t ?_ | refine Gd.f ?_ | with_reducible refine Gd.var (fun _ => ?_) (fun _ => ?_)) <;> first | (exfalso; omega) | skip) | (first | (show Gd _ _ _; first | with_reducible refine Gd.t ?_ | with_reducible refine Gd.f ?_ | with_reducible refine Gd.dec (fun _ => ?_) (fun _ => ?_) | with_reducible refine Gd.beq (fun _ => ?_) (fun _ => ?_) | with_reducible refine Gd.bne (fun _ => ?_) (fun _ => ?_) | with_reducible refine Gd.not ?_ | refine Gd.t ?_ | refine Gd.f ?_ | with_reducible refine Gd.var (fun _ => ?_) (fun _ => ?_)) | (show Sq _ _ _; refine Sq.mk ?_) | (show Ld1 _ _ _; first | (apply Ld1.blk; (focus ((repeat (first | assumption | (apply Blk.from; assumption))); done)); rfl) | (apply Ld1.rsF; (focus ((repeat (first | assumption | (apply RdS.from; assumption))); done)); assumption; rfl) | (apply Ld1.rs; (focus ((repeat (first | assumption | (apply RdS.from; assumption))); done)); assumption; rfl)) | (show Ld _ _ _ _; first | (apply Ld.blk; (focus ((repeat (first | assumption | (apply Blk.from; assumption))); done)); rfl) | (apply Ld.rs; (focus ((repeat (first | assumption | (apply RdS.from; assumption))); done)); assumption)) | (show Ix _ _ _ _ _; first | (apply Ix.rs; (focus ((repeat (first | assumption | (apply RdS.from; assumption))); done)); (first | with_reducible rfl | assumption); (first | assumption | omega)) | (apply Ix.arr; (focus ((repeat (first | assumption | (apply RdS.from; assumption))); done)); (first | assumption | (simp; done)); (first | with_reducible rfl | assumption); (first | assumption | omega))) | (show Al _ _ _ _; refine Al.mk (fun _ _ _ _ _ _ => ?_)) | (show St _ _ _ _; apply St.new; assumption; assumption; assumption; rfl; rfl; intro _ _ _ _)))
      refine ⟨i + 1, ⟨at_int (m := ((i + 1 : Nat) : Int)) rfl (w64 (by simp) (by omega) (by omega)), rfl, rfl, trivial⟩, rfl, ⟨by omega, h.congr fun i' j hi' hj => ?_, t2⟩, by omega⟩
      unfold mark
      by_cases hc : i' < i ∨ i' = i ∧ j < k
      · rw [if_pos hc, if_pos (by omega)]
      · rw [if_neg hc, if_neg (by omega)]
  · repeat' (first | ((show Gd _ _ _; first | with_reducible refine Gd.t ?_ | with_reducible refine Gd.f ?_ | with_reducible refine Gd.dec (fun _ => ?_) (fun _ => ?_) | with_reducible refine Gd.beq (fun _ => ?_) (fun _ => ?_) | with_reducible refine Gd.bne (fun _ => ?_) (fun _ => ?_) | with_reducible refine Gd.not ?_ | refine Gd.t ?_ | refine Gd.f ?_ | with_reducible refine Gd.var (fun _ => ?_) (fun _ => ?_)) <;> first | (exfalso; omega) | skip) | (first | (show Gd _ _ _; first | with_reducible refine Gd.t ?_ | with_reducible refine Gd.f ?_ | with_reducible refine Gd.dec (fun _ => ?_) (fun _ => ?_) | with_reducible refine Gd.beq (fun _ => ?_) (fun _ => ?_) | with_reducible refine Gd.bne (fun _ => ?_) (fun _ => ?_) | with_reducible refine Gd.not ?_ | refine Gd.t ?_ | refine Gd.f ?_ | with_reducible refine Gd.var (fun _ => ?_) (fun _ => ?_)) | (show Sq _ _ _; refine Sq.mk ?_) | (show Ld1 _ _ _; first | (apply Ld1.blk; (focus ((repeat (first | assumption | (apply Blk.from; assumption))); done)); rfl) | (apply Ld1.rsF; (focus ((repeat (first | assumption | (apply RdS.from; assumption))); done)); assumption; rfl) | (apply Ld1.rs; (focus ((repeat (first | assumption | (apply RdS.from; assumption))); done)); assumption; rfl)) | (show Ld _ _ _ _; first | (apply Ld.blk; (focus ((repeat (first | assumption | (apply Blk.from; assumption))); done)); rfl) | (apply Ld.rs; (focus ((repeat (first | assumption | (apply RdS.from; assumption))); done)); assumption)) | (show Ix _ _ _ _ _; first | (apply Ix.rs; (focus ((repeat (first | assumption | (apply RdS.from; assumption))); done)); (first | with_reducible rfl | assumption); (first | assumption | omega)) | (apply Ix.arr; (focus ((repeat (first | assumption | (apply RdS.from; assumption))); done)); (first | assumption | (simp; done)); (first | with_reducible rfl | assumption); (first | assumption | omega))) | (show Al _ _ _ _; refine Al.mk (fun _ _ _ _ _ _ => ?_)) | (show St _ _ _ _; apply St.new; assumption; assumption; assumption; rfl; rfl; intro _ _ _ _)))
    exact ⟨h.congr fun i' j hi' hj => by unfold mark; rw [if_pos (by omega)], t1⟩
end Go.Proofs.YtbbadmlekagloaaDoor
