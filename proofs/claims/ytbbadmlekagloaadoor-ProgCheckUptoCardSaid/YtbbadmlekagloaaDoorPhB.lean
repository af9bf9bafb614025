/- layer prog: programs; what a function spawns, what it does to its slots; own work. -/
import Derived.Test.YtbbadmlekagloaaDoorPhA
import Derived.Test.YtbbadmlekagloaaDoorShS
namespace Go.Proofs.YtbbadmlekagloaaDoor
open Go Go.Sh
set_option linter.unusedVariables false
set_option linter.unusedSimpArgs false
attribute [local irreducible] Blk Ext RdS
/-- a function as it lies in memory -/
abbrev FE := Fn × Option Addr × Nat
def FE.enc (x : FE) : List Value := [.int .i64 x.1.params, .int .i64 x.1.regs, .int .i64 x.1.slots, .slice x.2.1 x.1.code.length x.2.2]
theorem FE.v_enc (x : FE) : x.1.v x.2.1 x.2.2 = .agg x.enc.toArray := rfl
def pv (A : Option Addr) (n c : Nat) : Value := .agg #[.slice A n c]
def fns (l : List FE) : List Fn := l.map (·.1)
/-- a program that can be read -/
structure RdP (w : World) (A : Option Addr) (l : List FE) : Prop where
  top : RdS FE.enc 4 w A l
  code : ∀ x ∈ l, RdC w x.2.1 x.1.code
theorem RdP.ext {w w' : World} {A : Option Addr} {l : List FE} (h : RdP w A l) (e : Ext w w') : RdP w' A l := ⟨RdS.from e h.top, fun x hx => RdS.from e (h.code x hx)⟩
theorem rd_some {α : Type} {enc : α → List Value} {sz : Nat} {w : World} {A : Option Addr} {l : List α} (h : RdS enc sz w A l) (hn : l ≠ []) : ∃ a, A = some a := by
  unfold RdS at h
  have := (h.some hn).1
  cases A with
  | none => exact absurd rfl this
  | some a => exact ⟨a, rfl⟩
def parOf (fs : List Fn) (b : Int) : Int := ((fs[b.toNat]?).map Fn.params).getD 0
def calledB (fs : List Fn) (f : Fn) (x : Ins) : Bool := if x.kd = 5 then belowB x.b fs.length && (decide (parOf fs x.b = 0) || (belowB x.c f.regs && decide (parOf fs x.b ≤ f.regs - x.c))) else true
theorem fns_len (l : List FE) : (fns l).length = l.length := by simp [fns]
theorem parOf_at {l : List FE} {b : Int} {k : Nat} {y : FE} (hb : b = k) (hy : l[k]? = some y) : parOf (fns l) b = y.1.params := by
  simp [parOf, fns, hb, hy]
theorem called_c (f : Fn) (A : Option Addr) (c : Nat) (x : Ins) (B : Option Addr) (l : List FE) (d : Nat) (w : World) (hB : RdS FE.enc 4 w B l) (hr : 1 ≤ f.regs ∧ f.regs ≤ 16) :
    Cl Tryd.prog 61 #[pv B l.length d, f.v A c, x.v] w (fun v w' => v = .bool (calledB (fns l) f x) ∧ Ext w w') (fun _ _ => False) := by
  refine calls_ex (args := [pv B l.length d, f.v A c, x.v]) T.ok Tryd.func61 rfl rfl rfl rfl ?_
  have H := Hp.begin nw w
  by_cases h5 : x.kd = 5
  · by_cases hb : 0 ≤ x.b ∧ x.b < l.length
    · obtain ⟨k, hk⟩ : ∃ k : Nat, x.b = k := ⟨x.b.toNat, by omega⟩
      have hkl : k < l.length := by omega
      obtain ⟨y, hy⟩ : ∃ y, l[k]? = some y := ⟨_, List.getElem?_eq_getElem hkl⟩
      have hp := parOf_at hk hy
      have hbl : belowB x.b (l.length : Int) = true := by simp [belowB]; omega
      have hw : belowB x.c f.regs = true → IntKind.i64.wrap (f.regs - x.c) = f.regs - x.c := fun h => by
        simp only [belowB, decide_eq_true_eq] at h
        exact w64 rfl (by omega) (by omega)
      repeat' (first | ((conv => whnf); first | (((with_reducible show Gd _ _ _); first | with_reducible refine Gd.t ?_ | with_reducible refine Gd.f ?_ | with_reducible refine Gd.dec (fun _ => ?_) (fun _ => ?_) | with_reducible refine Gd.beq (fun _ => ?_) (fun _ => ?_) | with_reducible refine Gd.bne (fun _ => ?_) (fun _ => ?_) | with_reducible refine Gd.not ?_ | refine Gd.t ?_ | refine Gd.f ?_ | with_reducible refine Gd.var (fun _ => ?_) (fun _ => ?_)) <;> first | (exfalso; omega) | skip) | with_reducible refine Sq.mk ?_ | ((with_reducible show Ld1 _ _ _); first | refine Ld1.h H ?_ | refine Ld1.rF ?_ | refine Ld1.r ?_) | ((with_reducible show Ld _ _ _ _); first | refine Ld.h H ?_ | refine Ld.r ?_) | ((with_reducible show Ix _ _ _ _ _); (first | refine Ix.h ?_ | refine Ix.ha ?_)) | (refine Al.hp H ?_; clear H; intro _ _ H _) | (refine St.h H ?_; clear H; intro _ H)) | (((conv => whnf); refine Cl.mk (below_c _ _ _) ?_); rintro _ _ ⟨rfl, hx⟩; replace H := H.ext hx; clear hx))
      all_goals first | (exfalso; simp_all; done) | skip
      all_goals refine ⟨b_eq ?_, H.e⟩
      all_goals simp only [calledB, h5, if_true, fns_len, hbl, hp, Bool.true_and]
      all_goals simp_all
    · repeat' (first | ((conv => whnf); first | (((with_reducible show Gd _ _ _); first | with_reducible refine Gd.t ?_ | with_reducible refine Gd.f ?_ | with_reducible refine Gd.dec (fun _ => ?_) (fun _ => ?_) | with_reducible refine Gd.beq (fun _ => ?_) (fun _ => ?_) | with_reducible refine Gd.bne (fun _ => ?_) (fun _ => ?_) | with_reducible refine Gd.not ?_ | refine Gd.t ?_ | refine Gd.f ?_ | with_reducible refine Gd.var (fun _ => ?_) (fun _ => ?_)) <;> first | (exfalso; omega) | skip) | with_reducible refine Sq.mk ?_ | ((with_reducible show Ld1 _ _ _); first | refine Ld1.h H ?_ | refine Ld1.rF ?_ | refine Ld1.r ?_) | ((with_reducible show Ld _ _ _ _); first | refine Ld.h H ?_ | refine Ld.r ?_) | ((with_reducible show Ix _ _ _ _ _); (first | refine Ix.h ?_ | refine Ix.ha ?_)) | (refine Al.hp H ?_; clear H; intro _ _ H _) | (refine St.h H ?_; clear H; intro _ H)) | (((conv => whnf); refine Cl.mk (below_c _ _ _) ?_); rintro _ _ ⟨rfl, hx⟩; replace H := H.ext hx; clear hx))
      all_goals first | (exfalso; simp only [belowB, decide_eq_true_eq] at *; omega) | skip
      all_goals refine ⟨b_eq ?_, H.e⟩
      all_goals simp only [calledB, h5, if_true, fns_len]
      all_goals simp_all
  · repeat' (first | ((conv => whnf); first | (((with_reducible show Gd _ _ _); first | with_reducible refine Gd.t ?_ | with_reducible refine Gd.f ?_ | with_reducible refine Gd.dec (fun _ => ?_) (fun _ => ?_) | with_reducible refine Gd.beq (fun _ => ?_) (fun _ => ?_) | with_reducible refine Gd.bne (fun _ => ?_) (fun _ => ?_) | with_reducible refine Gd.not ?_ | refine Gd.t ?_ | refine Gd.f ?_ | with_reducible refine Gd.var (fun _ => ?_) (fun _ => ?_)) <;> first | (exfalso; omega) | skip) | with_reducible refine Sq.mk ?_ | ((with_reducible show Ld1 _ _ _); first | refine Ld1.h H ?_ | refine Ld1.rF ?_ | refine Ld1.r ?_) | ((with_reducible show Ld _ _ _ _); first | refine Ld.h H ?_ | refine Ld.r ?_) | ((with_reducible show Ix _ _ _ _ _); (first | refine Ix.h ?_ | refine Ix.ha ?_)) | (refine Al.hp H ?_; clear H; intro _ _ H _) | (refine St.h H ?_; clear H; intro _ H)) | (((conv => whnf); refine Cl.mk (below_c _ _ _) ?_); rintro _ _ ⟨rfl, hx⟩; replace H := H.ext hx; clear hx))
    all_goals exact ⟨b_eq (by simp [calledB, h5]), H.e⟩
theorem alone_rows2 {f : Fn} {x : Ins} {k : Nat} {n : Int} (hn : 0 ≤ n) (hk : x.kd = k) (h10 : k < 10) :
    (aloneB f x && (if k = 5 then belowB x.b n else true)) = (fitsB (rowOf k).a x.a f n && fitsB (rowOf k).b x.b f n && fitsB (rowOf k).c x.c f n && (if (rowOf k).k = 5 then decide (0 ≤ x.k ∧ x.k < 16) else true)) := by
  unfold aloneB
  have hn' : ¬ n < 0 := by omega
  have : k = 0 ∨ k = 1 ∨ k = 2 ∨ k = 3 ∨ k = 4 ∨ k = 5 ∨ k = 6 ∨ k = 7 ∨ k = 8 ∨ k = 9 := by omega
  rcases this with rfl | rfl | rfl | rfl | rfl | rfl | rfl | rfl | rfl | rfl <;> rw [hk] <;> simp [fitsB, rowOf, hn']
set_option maxHeartbeats 1000000 in
theorem instrOK_all (f : Fn) (A : Option Addr) (c : Nat) (x : Ins) (B : Option Addr) (l : List FE) (d : Nat) (w : World) (hG : RdG w) (hB : RdS FE.enc 4 w B l) (hne : l ≠ []) (hll : l.length ≤ 32) (hr : 1 ≤ f.regs ∧ f.regs ≤ 16) (hs : ∀ y ∈ l, 0 ≤ y.1.params ∧ y.1.params ≤ 8) :
    Cl Tryd.prog 76 #[x.v, f.v A c, .slice B l.length d] w (fun v w' => v = .bool (aloneB f x && calledB (fns l) f x) ∧ Ext w w') (fun _ _ => False) := by
  obtain ⟨b0, rfl⟩ := rd_some hB hne
  by_cases hr0 : x.kd < 0 ∨ 10 ≤ x.kd
  · have ha := instr_range (f := f) hr0
    refine calls_ex (args := [x.v, f.v A c, .slice (some b0) l.length d]) T.ok Tryd.func76 rfl rfl rfl rfl ?_
    have H := Hp.begin nw w
    repeat' ((conv => whnf); first | (((with_reducible show Gd _ _ _); first | with_reducible refine Gd.t ?_ | with_reducible refine Gd.f ?_ | with_reducible refine Gd.dec (fun _ => ?_) (fun _ => ?_) | with_reducible refine Gd.beq (fun _ => ?_) (fun _ => ?_) | with_reducible refine Gd.bne (fun _ => ?_) (fun _ => ?_) | with_reducible refine Gd.not ?_ | refine Gd.t ?_ | refine Gd.f ?_ | with_reducible refine Gd.var (fun _ => ?_) (fun _ => ?_)) <;> first | (exfalso; omega) | skip) | with_reducible refine Sq.mk ?_ | ((with_reducible show Ld1 _ _ _); first | refine Ld1.h H ?_ | refine Ld1.rF ?_ | refine Ld1.r ?_) | ((with_reducible show Ld _ _ _ _); first | refine Ld.h H ?_ | refine Ld.r ?_) | ((with_reducible show Ix _ _ _ _ _); (first | refine Ix.h ?_ | refine Ix.ha ?_)) | (refine Al.hp H ?_; clear H; intro _ _ H _) | (refine St.h H ?_; clear H; intro _ H))
    all_goals first | (exfalso; omega) | exact ⟨b_eq (by rw [ha]; rfl), H.e⟩
  · obtain ⟨k, hk, hk10⟩ : ∃ k : Nat, x.kd = k ∧ k < 10 := ⟨x.kd.toNat, by omega, by omega⟩
    have hrow : rows10[k]? = some (rowOf k) := by simp [rows10, hk10]
    have hr10 : rows10.length = 10 := rfl
    have hrows := alone_rows2 (f := f) (x := x) (n := (l.length : Int)) (by omega) hk hk10
    refine calls_ex (args := [x.v, f.v A c, .slice (some b0) l.length d]) T.ok Tryd.func76 rfl rfl rfl rfl ?_
    have H := Hp.begin nw w
    by_cases h5 : k = 5
    · subst h5
      have hkd : x.kd = 5 := hk
      have hrow5 : (rowOf 5).k = 0 := rfl
      by_cases hb : 0 ≤ x.b ∧ x.b < l.length
      · obtain ⟨j, hj⟩ : ∃ k : Nat, x.b = k := ⟨x.b.toNat, by omega⟩
        have hjl : j < l.length := by omega
        obtain ⟨y, hy⟩ : ∃ y, l[j]? = some y := ⟨_, List.getElem?_eq_getElem hjl⟩
        have hp := parOf_at hj hy
        have hy8 := hs y (List.mem_of_getElem? hy)
        have hbl : belowB x.b (l.length : Int) = true := by simp [belowB]; omega
        have hw : IntKind.i64.wrap (f.regs - y.1.params) = f.regs - y.1.params := w64 rfl (by omega) (by omega)
        have hcf : fitsB (rowOf 5).c x.c f l.length = true := rfl
        have hA : aloneB f x = (fitsB (rowOf 5).a x.a f l.length && fitsB (rowOf 5).b x.b f l.length && fitsB (rowOf 5).c x.c f l.length) := by
          rw [if_pos rfl, hbl, Bool.and_true] at hrows
          rw [hrows, if_neg (by rw [hrow5]; decide), Bool.and_true]
        repeat' (first | ((conv => whnf); first | (((with_reducible show Gd _ _ _); first | with_reducible refine Gd.t ?_ | with_reducible refine Gd.f ?_ | with_reducible refine Gd.dec (fun _ => ?_) (fun _ => ?_) | with_reducible refine Gd.beq (fun _ => ?_) (fun _ => ?_) | with_reducible refine Gd.bne (fun _ => ?_) (fun _ => ?_) | with_reducible refine Gd.not ?_ | refine Gd.t ?_ | refine Gd.f ?_ | with_reducible refine Gd.var (fun _ => ?_) (fun _ => ?_)) <;> first | (exfalso; omega) | skip) | with_reducible refine Sq.mk ?_ | ((with_reducible show Ld1 _ _ _); first | refine Ld1.h H ?_ | refine Ld1.rF ?_ | refine Ld1.r ?_) | ((with_reducible show Ld _ _ _ _); first | refine Ld.h H ?_ | refine Ld.r ?_) | ((with_reducible show Ix _ _ _ _ _); (first | refine Ix.h ?_ | refine Ix.ha ?_)) | (refine Al.hp H ?_; clear H; intro _ _ H _) | (refine St.h H ?_; clear H; intro _ H)) | (((conv => whnf); refine Cl.mk (fits_c _ _ _ _ _ _ _) ?_); rintro _ _ ⟨rfl, hx⟩; replace H := H.ext hx; clear hx))
        all_goals first | (exfalso; omega) | skip
        all_goals
          refine ⟨b_eq ?_, H.e⟩
          rw [hA]
          simp only [calledB, hkd, if_true, fns_len, hbl, hp, Bool.true_and]
          first | (simp only [(by assumption : fitsB (rowOf 5).a x.a f l.length = true), (by assumption : fitsB (rowOf 5).b x.b f l.length = true), hcf, Bool.true_and, belowB]; rw [Bool.eq_iff_iff]; simp only [decide_eq_true_eq, Bool.or_eq_true, Bool.and_eq_true, hw, true_iff]; omega) | (simp_all [belowB]; done) | (simp_all [belowB]; omega)
      · have hbl : belowB x.b (l.length : Int) = false := by simp only [belowB, decide_eq_false_iff_not]; exact hb
        have hf : fitsB (rowOf 5).b x.b f l.length = false := by
          have : ¬ (l.length : Int) < 0 := by omega
          simp only [fitsB, rowOf]
          simp [this, hbl]
        repeat' (first | ((conv => whnf); first | (((with_reducible show Gd _ _ _); first | with_reducible refine Gd.t ?_ | with_reducible refine Gd.f ?_ | with_reducible refine Gd.dec (fun _ => ?_) (fun _ => ?_) | with_reducible refine Gd.beq (fun _ => ?_) (fun _ => ?_) | with_reducible refine Gd.bne (fun _ => ?_) (fun _ => ?_) | with_reducible refine Gd.not ?_ | refine Gd.t ?_ | refine Gd.f ?_ | with_reducible refine Gd.var (fun _ => ?_) (fun _ => ?_)) <;> first | (exfalso; omega) | skip) | with_reducible refine Sq.mk ?_ | ((with_reducible show Ld1 _ _ _); first | refine Ld1.h H ?_ | refine Ld1.rF ?_ | refine Ld1.r ?_) | ((with_reducible show Ld _ _ _ _); first | refine Ld.h H ?_ | refine Ld.r ?_) | ((with_reducible show Ix _ _ _ _ _); (first | refine Ix.h ?_ | refine Ix.ha ?_)) | (refine Al.hp H ?_; clear H; intro _ _ H _) | (refine St.h H ?_; clear H; intro _ H)) | (((conv => whnf); refine Cl.mk (fits_c _ _ _ _ _ _ _) ?_); rintro _ _ ⟨rfl, hx⟩; replace H := H.ext hx; clear hx))
        all_goals first | (exfalso; simp_all; done) | skip
        all_goals
          refine ⟨b_eq ?_, H.e⟩
          simp [calledB, hkd, fns_len, hbl]
    · have hA : aloneB f x = (fitsB (rowOf k).a x.a f l.length && fitsB (rowOf k).b x.b f l.length && fitsB (rowOf k).c x.c f l.length && (if (rowOf k).k = 5 then decide (0 ≤ x.k ∧ x.k < 16) else true)) := by
        rw [if_neg h5, Bool.and_true] at hrows
        exact hrows
      have hkd : ¬ x.kd = 5 := by omega
      have hC : calledB (fns l) f x = true := by simp [calledB, hkd]
      repeat' (first | ((conv => whnf); first | (((with_reducible show Gd _ _ _); first | with_reducible refine Gd.t ?_ | with_reducible refine Gd.f ?_ | with_reducible refine Gd.dec (fun _ => ?_) (fun _ => ?_) | with_reducible refine Gd.beq (fun _ => ?_) (fun _ => ?_) | with_reducible refine Gd.bne (fun _ => ?_) (fun _ => ?_) | with_reducible refine Gd.not ?_ | refine Gd.t ?_ | refine Gd.f ?_ | with_reducible refine Gd.var (fun _ => ?_) (fun _ => ?_)) <;> first | (exfalso; omega) | skip) | with_reducible refine Sq.mk ?_ | ((with_reducible show Ld1 _ _ _); first | refine Ld1.h H ?_ | refine Ld1.rF ?_ | refine Ld1.r ?_) | ((with_reducible show Ld _ _ _ _); first | refine Ld.h H ?_ | refine Ld.r ?_) | ((with_reducible show Ix _ _ _ _ _); (first | refine Ix.h ?_ | refine Ix.ha ?_)) | (refine Al.hp H ?_; clear H; intro _ _ H _) | (refine St.h H ?_; clear H; intro _ H)) | (((conv => whnf); refine Cl.mk (fits_c _ _ _ _ _ _ _) ?_); rintro _ _ ⟨rfl, hx⟩; replace H := H.ext hx; clear hx))
      all_goals first | (exfalso; omega) | skip
      all_goals
        refine ⟨b_eq ?_, H.e⟩
        rw [hA, hC, Bool.and_true]
        first | (simp_all; done) | (simp_all; omega)
/-- what one place of a function does wrong to the slots, by their row -/
def rowFault (x : Ins) (row : List Int) : Int :=
  if x.kd = 5 then (if bitand (row[x.a.toNat]?.getD 0) 2 ≠ 0 then 54 else 0)
  else if x.kd = 7 then (if bitand (row[x.b.toNat]?.getD 0) 3 ≠ 0 then 55 else 0)
  else if x.kd = 9 then (if row.any (fun m => decide (bitand m 2 ≠ 0)) then 56 else 0) else 0
theorem any_step {l : List Int} {p : Int → Bool} {i : Nat} {x : Int} (h : l[i]? = some x) : (l.take (i + 1)).any p = ((l.take i).any p || p x) := by
  obtain ⟨h1, h2⟩ := List.getElem?_eq_some_iff.1 h
  rw [List.take_succ_eq_append_getElem h1, List.any_append, h2]; simp
theorem slotFault_c (x : Ins) (q : Option Addr) (row : List Int) (c : Nat) (w : World) (hq : RdS ints 1 w q row) (hl : row.length ≤ 8) (ha : x.kd = 5 → 0 ≤ x.a ∧ x.a < row.length) (hb : x.kd = 7 → 0 ≤ x.b ∧ x.b < row.length) :
    Cl Tryd.prog 63 #[x.v, .slice q row.length c] w (fun v w' => v = .int .i64 (rowFault x row) ∧ Ext w w') (fun _ _ => False) := by
  refine calls_ex (args := [x.v, .slice q row.length c]) T.ok Tryd.func63 rfl rfl rfl rfl ?_
  have H := Hp.begin nw w
  refine Sq.mk ?_
  ((conv => whnf); refine Al.hp H ?_; clear H; intro pf _ H _)
  by_cases h5 : x.kd = 5
  · obtain ⟨k, hk⟩ : ∃ k : Nat, x.a = k := ⟨x.a.toNat, by have := ha h5; omega⟩
    have hkl : k < row.length := by have := ha h5; omega
    obtain ⟨y, hy⟩ : ∃ y, row[k]? = some y := ⟨_, List.getElem?_eq_getElem hkl⟩
    have hg : row[x.a.toNat]?.getD 0 = y := by rw [hk]; simp [hy]
    repeat' ((conv => whnf); first | (((with_reducible show Gd _ _ _); first | with_reducible refine Gd.t ?_ | with_reducible refine Gd.f ?_ | with_reducible refine Gd.dec (fun _ => ?_) (fun _ => ?_) | with_reducible refine Gd.beq (fun _ => ?_) (fun _ => ?_) | with_reducible refine Gd.bne (fun _ => ?_) (fun _ => ?_) | with_reducible refine Gd.not ?_ | refine Gd.t ?_ | refine Gd.f ?_ | with_reducible refine Gd.var (fun _ => ?_) (fun _ => ?_)) <;> first | (exfalso; omega) | skip) | with_reducible refine Sq.mk ?_ | ((with_reducible show Ld1 _ _ _); first | refine Ld1.h H ?_ | refine Ld1.rF ?_ | refine Ld1.r ?_) | ((with_reducible show Ld _ _ _ _); first | refine Ld.h H ?_ | refine Ld.r ?_) | ((with_reducible show Ix _ _ _ _ _); (first | refine Ix.h ?_ | refine Ix.ha ?_)) | (refine Al.hp H ?_; clear H; intro _ _ H _) | (refine St.h H ?_; clear H; intro _ H))
    all_goals first | (exfalso; omega) | skip
    all_goals
      refine ⟨i_eq ?_, H.e⟩
      simp only [rowFault, h5, if_true, hg]
      first | exact (if_pos (by assumption)).symm | exact (if_neg (fun hne => hne (by assumption))).symm
  · by_cases h7 : x.kd = 7
    · obtain ⟨k, hk⟩ : ∃ k : Nat, x.b = k := ⟨x.b.toNat, by have := hb h7; omega⟩
      have hkl : k < row.length := by have := hb h7; omega
      obtain ⟨y, hy⟩ : ∃ y, row[k]? = some y := ⟨_, List.getElem?_eq_getElem hkl⟩
      have hg : row[x.b.toNat]?.getD 0 = y := by rw [hk]; simp [hy]
      repeat' ((conv => whnf); first | (((with_reducible show Gd _ _ _); first | with_reducible refine Gd.t ?_ | with_reducible refine Gd.f ?_ | with_reducible refine Gd.dec (fun _ => ?_) (fun _ => ?_) | with_reducible refine Gd.beq (fun _ => ?_) (fun _ => ?_) | with_reducible refine Gd.bne (fun _ => ?_) (fun _ => ?_) | with_reducible refine Gd.not ?_ | refine Gd.t ?_ | refine Gd.f ?_ | with_reducible refine Gd.var (fun _ => ?_) (fun _ => ?_)) <;> first | (exfalso; omega) | skip) | with_reducible refine Sq.mk ?_ | ((with_reducible show Ld1 _ _ _); first | refine Ld1.h H ?_ | refine Ld1.rF ?_ | refine Ld1.r ?_) | ((with_reducible show Ld _ _ _ _); first | refine Ld.h H ?_ | refine Ld.r ?_) | ((with_reducible show Ix _ _ _ _ _); (first | refine Ix.h ?_ | refine Ix.ha ?_)) | (refine Al.hp H ?_; clear H; intro _ _ H _) | (refine St.h H ?_; clear H; intro _ H))
      all_goals first | (exfalso; omega) | skip
      all_goals
        refine ⟨i_eq ?_, H.e⟩
        simp only [rowFault, h5, h7, if_true, if_false, hg]
        first | exact (if_pos (by assumption)).symm | exact (if_neg (fun hne => hne (by assumption))).symm
    · by_cases h9 : x.kd = 9
      · repeat' ((conv => whnf); first | (((with_reducible show Gd _ _ _); first | with_reducible refine Gd.t ?_ | with_reducible refine Gd.f ?_ | with_reducible refine Gd.dec (fun _ => ?_) (fun _ => ?_) | with_reducible refine Gd.beq (fun _ => ?_) (fun _ => ?_) | with_reducible refine Gd.bne (fun _ => ?_) (fun _ => ?_) | with_reducible refine Gd.not ?_ | refine Gd.t ?_ | refine Gd.f ?_ | with_reducible refine Gd.var (fun _ => ?_) (fun _ => ?_)) <;> first | (exfalso; omega) | skip) | with_reducible refine Sq.mk ?_ | ((with_reducible show Ld1 _ _ _); first | refine Ld1.h H ?_ | refine Ld1.rF ?_ | refine Ld1.r ?_) | ((with_reducible show Ld _ _ _ _); first | refine Ld.h H ?_ | refine Ld.r ?_) | ((with_reducible show Ix _ _ _ _ _); (first | refine Ix.h ?_ | refine Ix.ha ?_)) | (refine Al.hp H ?_; clear H; intro _ _ H _) | (refine St.h H ?_; clear H; intro _ H))
        all_goals first | (exfalso; omega) | skip
        refine Lp.g0 T.ok (σ := Nat) (fun i => [(5, .int .i64 (i : Int)), (1, .slice q row.length c), (2, .pointer (some ⟨pf, 0, none⟩))])
          (fun i w' => i ≤ row.length ∧ (row.take i).any (fun m => decide (bitand m 2 ≠ 0)) = false ∧ Hp nw w w' [bk pf 35 x.v.cells.toList]) (fun i _ => row.length - i) 0 rfl ⟨rfl, rfl, rfl, trivial⟩ ⟨Nat.zero_le _, by simp, H⟩ ?_
        clear H
        rintro i w5 ⟨hi, hany, H⟩
        by_cases hlt : i < row.length
        · obtain ⟨y, hy⟩ : ∃ y, row[i]? = some y := ⟨_, List.getElem?_eq_getElem hlt⟩
          have hst := any_step (p := fun m => decide (bitand m 2 ≠ 0)) hy
          have hq5 := RdS.from H.e hq
          repeat' ((conv => whnf); first | (((with_reducible show Gd _ _ _); first | with_reducible refine Gd.t ?_ | with_reducible refine Gd.f ?_ | with_reducible refine Gd.dec (fun _ => ?_) (fun _ => ?_) | with_reducible refine Gd.beq (fun _ => ?_) (fun _ => ?_) | with_reducible refine Gd.bne (fun _ => ?_) (fun _ => ?_) | with_reducible refine Gd.not ?_ | refine Gd.t ?_ | refine Gd.f ?_ | with_reducible refine Gd.var (fun _ => ?_) (fun _ => ?_)) <;> first | (exfalso; omega) | skip) | with_reducible refine Sq.mk ?_ | ((with_reducible show Ld1 _ _ _); first | refine Ld1.h H ?_ | refine Ld1.rF ?_ | refine Ld1.r ?_) | ((with_reducible show Ld _ _ _ _); first | refine Ld.h H ?_ | refine Ld.r ?_) | ((with_reducible show Ix _ _ _ _ _); (first | refine Ix.h ?_ | refine Ix.ha ?_)) | (refine Al.hp H ?_; clear H; intro _ _ H _) | (refine St.h H ?_; clear H; intro _ H))
          · refine ⟨i_eq ?_, H.e⟩
            have : row.any (fun m => decide (bitand m 2 ≠ 0)) = true := List.any_eq_true.2 ⟨y, List.mem_of_getElem? hy, decide_eq_true (by assumption)⟩
            rw [rowFault, if_neg h5, if_neg h7, if_pos h9, if_pos this]
          · refine ⟨i + 1, ⟨at_int (m := ((i + 1 : Nat) : Int)) rfl (w64 (by simp) (by omega) (by omega)), rfl, rfl, trivial⟩, rfl, ⟨by omega, ?_, H⟩, by omega⟩
            rw [hst, hany, Bool.false_or]
            exact decide_eq_false (fun hne => hne (by assumption))
        · have hi : i = row.length := by omega
          subst hi
          rw [List.take_length] at hany
          repeat' ((conv => whnf); first | (((with_reducible show Gd _ _ _); first | with_reducible refine Gd.t ?_ | with_reducible refine Gd.f ?_ | with_reducible refine Gd.dec (fun _ => ?_) (fun _ => ?_) | with_reducible refine Gd.beq (fun _ => ?_) (fun _ => ?_) | with_reducible refine Gd.bne (fun _ => ?_) (fun _ => ?_) | with_reducible refine Gd.not ?_ | refine Gd.t ?_ | refine Gd.f ?_ | with_reducible refine Gd.var (fun _ => ?_) (fun _ => ?_)) <;> first | (exfalso; omega) | skip) | with_reducible refine Sq.mk ?_ | ((with_reducible show Ld1 _ _ _); first | refine Ld1.h H ?_ | refine Ld1.rF ?_ | refine Ld1.r ?_) | ((with_reducible show Ld _ _ _ _); first | refine Ld.h H ?_ | refine Ld.r ?_) | ((with_reducible show Ix _ _ _ _ _); (first | refine Ix.h ?_ | refine Ix.ha ?_)) | (refine Al.hp H ?_; clear H; intro _ _ H _) | (refine St.h H ?_; clear H; intro _ H))
          exact ⟨i_eq (by rw [rowFault, if_neg h5, if_neg h7, if_pos h9, hany]; rfl), H.e⟩
      · repeat' ((conv => whnf); first | (((with_reducible show Gd _ _ _); first | with_reducible refine Gd.t ?_ | with_reducible refine Gd.f ?_ | with_reducible refine Gd.dec (fun _ => ?_) (fun _ => ?_) | with_reducible refine Gd.beq (fun _ => ?_) (fun _ => ?_) | with_reducible refine Gd.bne (fun _ => ?_) (fun _ => ?_) | with_reducible refine Gd.not ?_ | refine Gd.t ?_ | refine Gd.f ?_ | with_reducible refine Gd.var (fun _ => ?_) (fun _ => ?_)) <;> first | (exfalso; omega) | skip) | with_reducible refine Sq.mk ?_ | ((with_reducible show Ld1 _ _ _); first | refine Ld1.h H ?_ | refine Ld1.rF ?_ | refine Ld1.r ?_) | ((with_reducible show Ld _ _ _ _); first | refine Ld.h H ?_ | refine Ld.r ?_) | ((with_reducible show Ix _ _ _ _ _); (first | refine Ix.h ?_ | refine Ix.ha ?_)) | (refine Al.hp H ?_; clear H; intro _ _ H _) | (refine St.h H ?_; clear H; intro _ H))
        all_goals first | (exfalso; omega) | skip
        all_goals exact ⟨i_eq (by simp [rowFault, h5, h7, h9]), H.e⟩
end Go.Proofs.YtbbadmlekagloaaDoor
