/- own work: PhB, PhC, PhD, PhE, PhF, PhG, PhH, PhI, PhJ, PhK, PhL -/
import Derived.Test.YtbbadmlekagloaaDoorMT4
namespace Go.Proofs.YtbbadmlekagloaaDoor
open Go Go.Sh
set_option linter.unusedVariables false
set_option linter.unusedSimpArgs false
attribute [local irreducible] Blk Ext RdS
/-- a function as it lies in memory -/
abbrev FE := Fn × Option Addr × Nat
def FE.enc (x : FE) : List Value := [.int .i64 x.1.params, .int .i64 x.1.regs, .int .i64 x.1.slots, .slice x.2.1 x.1.code.length x.2.2]
theorem FE.v_enc (x : FE) : x.1.v x.2.1 x.2.2 = .agg x.enc.toArray := rfl
def pv (A : Option Addr) (n c : Nat) : Value := .agg #[.slice A n c]
def fns (l : List FE) : List Fn := l.map (·.1)
/-- a program that can be read -/
structure RdP (w : World) (A : Option Addr) (l : List FE) : Prop where
  top : RdS FE.enc 4 w A l
  code : ∀ x ∈ l, RdC w x.2.1 x.1.code
theorem RdP.ext {w w' : World} {A : Option Addr} {l : List FE} (h : RdP w A l) (e : Ext w w') : RdP w' A l := ⟨RdS.from e h.top, fun x hx => RdS.from e (h.code x hx)⟩
theorem rd_some {α : Type} {enc : α → List Value} {sz : Nat} {w : World} {A : Option Addr} {l : List α} (h : RdS enc sz w A l) (hn : l ≠ []) : ∃ a, A = some a := by
  unfold RdS at h
  have := (h.some hn).1
  cases A with
  | none => exact absurd rfl this
  | some a => exact ⟨a, rfl⟩
def parOf (fs : List Fn) (b : Int) : Int := ((fs[b.toNat]?).map Fn.params).getD 0
def calledB (fs : List Fn) (f : Fn) (x : Ins) : Bool := if x.kd = 5 then belowB x.b fs.length && (decide (parOf fs x.b = 0) || (belowB x.c f.regs && decide (parOf fs x.b ≤ f.regs - x.c))) else true
theorem fns_len (l : List FE) : (fns l).length = l.length := by simp [fns]
theorem parOf_at {l : List FE} {b : Int} {k : Nat} {y : FE} (hb : b = k) (hy : l[k]? = some y) : parOf (fns l) b = y.1.params := by
  simp [parOf, fns, hb, hy]
theorem called_c (f : Fn) (A : Option Addr) (c : Nat) (x : Ins) (B : Option Addr) (l : List FE) (d : Nat) (w : World) (hB : RdS FE.enc 4 w B l) (hr : 1 ≤ f.regs ∧ f.regs ≤ 16) :
    Cl Tryd.prog 61 #[pv B l.length d, f.v A c, x.v] w (fun v w' => v = .bool (calledB (fns l) f x) ∧ Ext w w') (fun _ _ => False) := by
  refine calls_ex (args := [pv B l.length d, f.v A c, x.v]) T.ok Tryd.func61 rfl rfl rfl rfl ?_
  have H := Hp.begin nw w
  by_cases h5 : x.kd = 5
  · by_cases hb : 0 ≤ x.b ∧ x.b < l.length
    · obtain ⟨k, hk⟩ : ∃ k : Nat, x.b = k := ⟨x.b.toNat, by omega⟩
      have hkl : k < l.length := by omega
      obtain ⟨y, hy⟩ : ∃ y, l[k]? = some y := ⟨_, List.getElem?_eq_getElem hkl⟩
      have hp := parOf_at hk hy
      have hbl : belowB x.b (l.length : Int) = true := by simp [belowB]; omega
      have hw : belowB x.c f.regs = true → IntKind.i64.wrap (f.regs - x.c) = f.regs - x.c := fun h => by
        simp only [belowB, decide_eq_true_eq] at h
        exact w64 rfl (by omega) (by omega)
      repeat' (first | ((conv => whnf); first | (((with_reducible show Gd _ _ _); first | with_reducible refine Gd.t ?_ | with_reducible refine Gd.f ?_ | with_reducible refine Gd.dec (fun _ => ?_) (fun _ => ?_) | with_reducible refine Gd.beq (fun _ => ?_) (fun _ => ?_) | with_reducible refine Gd.bne (fun _ => ?_) (fun _ => ?_) | with_reducible refine Gd.not ?_ | refine Gd.t ?_ | refine Gd.f ?_ | with_reducible refine Gd.var (fun _ => ?_) (fun _ => ?_)) <;> first | (exfalso; omega) | skip) | with_reducible refine Sq.mk ?_ | ((with_reducible show Ld1 _ _ _); first | refine Ld1.h H ?_ | refine Ld1.rF ?_ | refine Ld1.r ?_) | ((with_reducible show Ld _ _ _ _); first | refine Ld.h H ?_ | refine Ld.r ?_) | ((with_reducible show Ix _ _ _ _ _); (first | refine Ix.h ?_ | refine Ix.ha ?_)) | (refine Al.hp H ?_; clear H; intro _ _ H _) | (refine St.h H ?_; clear H; intro _ H)) | (((conv => whnf); refine Cl.mk (below_c _ _ _) ?_); rintro _ _ ⟨rfl, hx⟩; replace H := H.ext hx; clear hx))
      all_goals first | (exfalso; simp_all; done) | skip
      all_goals refine ⟨b_eq ?_, H.e⟩
      all_goals simp only [calledB, h5, if_true, fns_len, hbl, hp, Bool.true_and]
      all_goals simp_all
    · repeat' (first | ((conv => whnf); first | (((with_reducible show Gd _ _ _); first | with_reducible refine Gd.t ?_ | with_reducible refine Gd.f ?_ | with_reducible refine Gd.dec (fun _ => ?_) (fun _ => ?_) | with_reducible refine Gd.beq (fun _ => ?_) (fun _ => ?_) | with_reducible refine Gd.bne (fun _ => ?_) (fun _ => ?_) | with_reducible refine Gd.not ?_ | refine Gd.t ?_ | refine Gd.f ?_ | with_reducible refine Gd.var (fun _ => ?_) (fun _ => ?_)) <;> first | (exfalso; omega) | skip) | with_reducible refine Sq.mk ?_ | ((with_reducible show Ld1 _ _ _); first | refine Ld1.h H ?_ | refine Ld1.rF ?_ | refine Ld1.r ?_) | ((with_reducible show Ld _ _ _ _); first | refine Ld.h H ?_ | refine Ld.r ?_) | ((with_reducible show Ix _ _ _ _ _); (first | refine Ix.h ?_ | refine Ix.ha ?_)) | (refine Al.hp H ?_; clear H; intro _ _ H _) | (refine St.h H ?_; clear H; intro _ H)) | (((conv => whnf); refine Cl.mk (below_c _ _ _) ?_); rintro _ _ ⟨rfl, hx⟩; replace H := H.ext hx; clear hx))
      all_goals first | (exfalso; simp only [belowB, decide_eq_true_eq] at *; omega) | skip
      all_goals refine ⟨b_eq ?_, H.e⟩
      all_goals simp only [calledB, h5, if_true, fns_len]
      all_goals simp_all
  · repeat' (first | ((conv => whnf); first | (((with_reducible show Gd _ _ _); first | with_reducible refine Gd.t ?_ | with_reducible refine Gd.f ?_ | with_reducible refine Gd.dec (fun _ => ?_) (fun _ => ?_) | with_reducible refine Gd.beq (fun _ => ?_) (fun _ => ?_) | with_reducible refine Gd.bne (fun _ => ?_) (fun _ => ?_) | with_reducible refine Gd.not ?_ | refine Gd.t ?_ | refine Gd.f ?_ | with_reducible refine Gd.var (fun _ => ?_) (fun _ => ?_)) <;> first | (exfalso; omega) | skip) | with_reducible refine Sq.mk ?_ | ((with_reducible show Ld1 _ _ _); first | refine Ld1.h H ?_ | refine Ld1.rF ?_ | refine Ld1.r ?_) | ((with_reducible show Ld _ _ _ _); first | refine Ld.h H ?_ | refine Ld.r ?_) | ((with_reducible show Ix _ _ _ _ _); (first | refine Ix.h ?_ | refine Ix.ha ?_)) | (refine Al.hp H ?_; clear H; intro _ _ H _) | (refine St.h H ?_; clear H; intro _ H)) | (((conv => whnf); refine Cl.mk (below_c _ _ _) ?_); rintro _ _ ⟨rfl, hx⟩; replace H := H.ext hx; clear hx))
    all_goals exact ⟨b_eq (by simp [calledB, h5]), H.e⟩
theorem alone_rows2 {f : Fn} {x : Ins} {k : Nat} {n : Int} (hn : 0 ≤ n) (hk : x.kd = k) (h10 : k < 10) :
    (aloneB f x && (if k = 5 then belowB x.b n else true)) = (fitsB (rowOf k).a x.a f n && fitsB (rowOf k).b x.b f n && fitsB (rowOf k).c x.c f n && (if (rowOf k).k = 5 then decide (0 ≤ x.k ∧ x.k < 16) else true)) := by
  unfold aloneB
  have hn' : ¬ n < 0 := by omega
  have : k = 0 ∨ k = 1 ∨ k = 2 ∨ k = 3 ∨ k = 4 ∨ k = 5 ∨ k = 6 ∨ k = 7 ∨ k = 8 ∨ k = 9 := by omega
  rcases this with rfl | rfl | rfl | rfl | rfl | rfl | rfl | rfl | rfl | rfl <;> rw [hk] <;> simp [fitsB, rowOf, hn']
set_option maxHeartbeats 1000000 in
theorem instrOK_all (f : Fn) (A : Option Addr) (c : Nat) (x : Ins) (B : Option Addr) (l : List FE) (d : Nat) (w : World) (hG : RdG w) (hB : RdS FE.enc 4 w B l) (hne : l ≠ []) (hll : l.length ≤ 32) (hr : 1 ≤ f.regs ∧ f.regs ≤ 16) (hs : ∀ y ∈ l, 0 ≤ y.1.params ∧ y.1.params ≤ 8) :
    Cl Tryd.prog 76 #[x.v, f.v A c, .slice B l.length d] w (fun v w' => v = .bool (aloneB f x && calledB (fns l) f x) ∧ Ext w w') (fun _ _ => False) := by
  obtain ⟨b0, rfl⟩ := rd_some hB hne
  by_cases hr0 : x.kd < 0 ∨ 10 ≤ x.kd
  · have ha := instr_range (f := f) hr0
    refine calls_ex (args := [x.v, f.v A c, .slice (some b0) l.length d]) T.ok Tryd.func76 rfl rfl rfl rfl ?_
    have H := Hp.begin nw w
    repeat' ((conv => whnf); first | (((with_reducible show Gd _ _ _); first | with_reducible refine Gd.t ?_ | with_reducible refine Gd.f ?_ | with_reducible refine Gd.dec (fun _ => ?_) (fun _ => ?_) | with_reducible refine Gd.beq (fun _ => ?_) (fun _ => ?_) | with_reducible refine Gd.bne (fun _ => ?_) (fun _ => ?_) | with_reducible refine Gd.not ?_ | refine Gd.t ?_ | refine Gd.f ?_ | with_reducible refine Gd.var (fun _ => ?_) (fun _ => ?_)) <;> first | (exfalso; omega) | skip) | with_reducible refine Sq.mk ?_ | ((with_reducible show Ld1 _ _ _); first | refine Ld1.h H ?_ | refine Ld1.rF ?_ | refine Ld1.r ?_) | ((with_reducible show Ld _ _ _ _); first | refine Ld.h H ?_ | refine Ld.r ?_) | ((with_reducible show Ix _ _ _ _ _); (first | refine Ix.h ?_ | refine Ix.ha ?_)) | (refine Al.hp H ?_; clear H; intro _ _ H _) | (refine St.h H ?_; clear H; intro _ H))
    all_goals first | (exfalso; omega) | exact ⟨b_eq (by rw [ha]; rfl), H.e⟩
  · obtain ⟨k, hk, hk10⟩ : ∃ k : Nat, x.kd = k ∧ k < 10 := ⟨x.kd.toNat, by omega, by omega⟩
    have hrow : rows10[k]? = some (rowOf k) := by simp [rows10, hk10]
    have hr10 : rows10.length = 10 := rfl
    have hrows := alone_rows2 (f := f) (x := x) (n := (l.length : Int)) (by omega) hk hk10
    refine calls_ex (args := [x.v, f.v A c, .slice (some b0) l.length d]) T.ok Tryd.func76 rfl rfl rfl rfl ?_
    have H := Hp.begin nw w
    by_cases h5 : k = 5
    · subst h5
      have hkd : x.kd = 5 := hk
      have hrow5 : (rowOf 5).k = 0 := rfl
      by_cases hb : 0 ≤ x.b ∧ x.b < l.length
      · obtain ⟨j, hj⟩ : ∃ k : Nat, x.b = k := ⟨x.b.toNat, by omega⟩
        have hjl : j < l.length := by omega
        obtain ⟨y, hy⟩ : ∃ y, l[j]? = some y := ⟨_, List.getElem?_eq_getElem hjl⟩
        have hp := parOf_at hj hy
        have hy8 := hs y (List.mem_of_getElem? hy)
        have hbl : belowB x.b (l.length : Int) = true := by simp [belowB]; omega
        have hw : IntKind.i64.wrap (f.regs - y.1.params) = f.regs - y.1.params := w64 rfl (by omega) (by omega)
        have hcf : fitsB (rowOf 5).c x.c f l.length = true := rfl
        have hA : aloneB f x = (fitsB (rowOf 5).a x.a f l.length && fitsB (rowOf 5).b x.b f l.length && fitsB (rowOf 5).c x.c f l.length) := by
          rw [if_pos rfl, hbl, Bool.and_true] at hrows
          rw [hrows, if_neg (by rw [hrow5]; decide), Bool.and_true]
        repeat' (first | ((conv => whnf); first | (((with_reducible show Gd _ _ _); first | with_reducible refine Gd.t ?_ | with_reducible refine Gd.f ?_ | with_reducible refine Gd.dec (fun _ => ?_) (fun _ => ?_) | with_reducible refine Gd.beq (fun _ => ?_) (fun _ => ?_) | with_reducible refine Gd.bne (fun _ => ?_) (fun _ => ?_) | with_reducible refine Gd.not ?_ | refine Gd.t ?_ | refine Gd.f ?_ | with_reducible refine Gd.var (fun _ => ?_) (fun _ => ?_)) <;> first | (exfalso; omega) | skip) | with_reducible refine Sq.mk ?_ | ((with_reducible show Ld1 _ _ _); first | refine Ld1.h H ?_ | refine Ld1.rF ?_ | refine Ld1.r ?_) | ((with_reducible show Ld _ _ _ _); first | refine Ld.h H ?_ | refine Ld.r ?_) | ((with_reducible show Ix _ _ _ _ _); (first | refine Ix.h ?_ | refine Ix.ha ?_)) | (refine Al.hp H ?_; clear H; intro _ _ H _) | (refine St.h H ?_; clear H; intro _ H)) | (((conv => whnf); refine Cl.mk (fits_c _ _ _ _ _ _ _) ?_); rintro _ _ ⟨rfl, hx⟩; replace H := H.ext hx; clear hx))
        all_goals first | (exfalso; omega) | skip
        all_goals
          refine ⟨b_eq ?_, H.e⟩
          rw [hA]
          simp only [calledB, hkd, if_true, fns_len, hbl, hp, Bool.true_and]
          first | (simp only [(by assumption : fitsB (rowOf 5).a x.a f l.length = true), (by assumption : fitsB (rowOf 5).b x.b f l.length = true), hcf, Bool.true_and, belowB]; rw [Bool.eq_iff_iff]; simp only [decide_eq_true_eq, Bool.or_eq_true, Bool.and_eq_true, hw, true_iff]; omega) | (simp_all [belowB]; done) | (simp_all [belowB]; omega)
      · have hbl : belowB x.b (l.length : Int) = false := by simp only [belowB, decide_eq_false_iff_not]; exact hb
        have hf : fitsB (rowOf 5).b x.b f l.length = false := by
          have : ¬ (l.length : Int) < 0 := by omega
          simp only [fitsB, rowOf]
          simp [this, hbl]
        repeat' (first | ((conv => whnf); first | (((with_reducible show Gd _ _ _); first | with_reducible refine Gd.t ?_ | with_reducible refine Gd.f ?_ | with_reducible refine Gd.dec (fun _ => ?_) (fun _ => ?_) | with_reducible refine Gd.beq (fun _ => ?_) (fun _ => ?_) | with_reducible refine Gd.bne (fun _ => ?_) (fun _ => ?_) | with_reducible refine Gd.not ?_ | refine Gd.t ?_ | refine Gd.f ?_ | with_reducible refine Gd.var (fun _ => ?_) (fun _ => ?_)) <;> first | (exfalso; omega) | skip) | with_reducible refine Sq.mk ?_ | ((with_reducible show Ld1 _ _ _); first | refine Ld1.h H ?_ | refine Ld1.rF ?_ | refine Ld1.r ?_) | ((with_reducible show Ld _ _ _ _); first | refine Ld.h H ?_ | refine Ld.r ?_) | ((with_reducible show Ix _ _ _ _ _); (first | refine Ix.h ?_ | refine Ix.ha ?_)) | (refine Al.hp H ?_; clear H; intro _ _ H _) | (refine St.h H ?_; clear H; intro _ H)) | (((conv => whnf); refine Cl.mk (fits_c _ _ _ _ _ _ _) ?_); rintro _ _ ⟨rfl, hx⟩; replace H := H.ext hx; clear hx))
        all_goals first | (exfalso; simp_all; done) | skip
        all_goals
          refine ⟨b_eq ?_, H.e⟩
          simp [calledB, hkd, fns_len, hbl]
    · have hA : aloneB f x = (fitsB (rowOf k).a x.a f l.length && fitsB (rowOf k).b x.b f l.length && fitsB (rowOf k).c x.c f l.length && (if (rowOf k).k = 5 then decide (0 ≤ x.k ∧ x.k < 16) else true)) := by
        rw [if_neg h5, Bool.and_true] at hrows
        exact hrows
      have hkd : ¬ x.kd = 5 := by omega
      have hC : calledB (fns l) f x = true := by simp [calledB, hkd]
      repeat' (first | ((conv => whnf); first | (((with_reducible show Gd _ _ _); first | with_reducible refine Gd.t ?_ | with_reducible refine Gd.f ?_ | with_reducible refine Gd.dec (fun _ => ?_) (fun _ => ?_) | with_reducible refine Gd.beq (fun _ => ?_) (fun _ => ?_) | with_reducible refine Gd.bne (fun _ => ?_) (fun _ => ?_) | with_reducible refine Gd.not ?_ | refine Gd.t ?_ | refine Gd.f ?_ | with_reducible refine Gd.var (fun _ => ?_) (fun _ => ?_)) <;> first | (exfalso; omega) | skip) | with_reducible refine Sq.mk ?_ | ((with_reducible show Ld1 _ _ _); first | refine Ld1.h H ?_ | refine Ld1.rF ?_ | refine Ld1.r ?_) | ((with_reducible show Ld _ _ _ _); first | refine Ld.h H ?_ | refine Ld.r ?_) | ((with_reducible show Ix _ _ _ _ _); (first | refine Ix.h ?_ | refine Ix.ha ?_)) | (refine Al.hp H ?_; clear H; intro _ _ H _) | (refine St.h H ?_; clear H; intro _ H)) | (((conv => whnf); refine Cl.mk (fits_c _ _ _ _ _ _ _) ?_); rintro _ _ ⟨rfl, hx⟩; replace H := H.ext hx; clear hx))
      all_goals first | (exfalso; omega) | skip
      all_goals
        refine ⟨b_eq ?_, H.e⟩
        rw [hA, hC, Bool.and_true]
        first | (simp_all; done) | (simp_all; omega)
/-- what one place of a function does wrong to the slots, by their row -/
def rowFault (x : Ins) (row : List Int) : Int :=
  if x.kd = 5 then (if bitand (row[x.a.toNat]?.getD 0) 2 ≠ 0 then 54 else 0)
  else if x.kd = 7 then (if bitand (row[x.b.toNat]?.getD 0) 3 ≠ 0 then 55 else 0)
  else if x.kd = 9 then (if row.any (fun m => decide (bitand m 2 ≠ 0)) then 56 else 0) else 0
theorem any_step {l : List Int} {p : Int → Bool} {i : Nat} {x : Int} (h : l[i]? = some x) : (l.take (i + 1)).any p = ((l.take i).any p || p x) := by
  obtain ⟨h1, h2⟩ := List.getElem?_eq_some_iff.1 h
  rw [List.take_succ_eq_append_getElem h1, List.any_append, h2]; simp
theorem slotFault_c (x : Ins) (q : Option Addr) (row : List Int) (c : Nat) (w : World) (hq : RdS ints 1 w q row) (hl : row.length ≤ 8) (ha : x.kd = 5 → 0 ≤ x.a ∧ x.a < row.length) (hb : x.kd = 7 → 0 ≤ x.b ∧ x.b < row.length) :
    Cl Tryd.prog 63 #[x.v, .slice q row.length c] w (fun v w' => v = .int .i64 (rowFault x row) ∧ Ext w w') (fun _ _ => False) := by
  refine calls_ex (args := [x.v, .slice q row.length c]) T.ok Tryd.func63 rfl rfl rfl rfl ?_
  have H := Hp.begin nw w
  refine Sq.mk ?_
  ((conv => whnf); refine Al.hp H ?_; clear H; intro pf _ H _)
  by_cases h5 : x.kd = 5
  · obtain ⟨k, hk⟩ : ∃ k : Nat, x.a = k := ⟨x.a.toNat, by have := ha h5; omega⟩
    have hkl : k < row.length := by have := ha h5; omega
    obtain ⟨y, hy⟩ : ∃ y, row[k]? = some y := ⟨_, List.getElem?_eq_getElem hkl⟩
    have hg : row[x.a.toNat]?.getD 0 = y := by rw [hk]; simp [hy]
    repeat' ((conv => whnf); first | (((with_reducible show Gd _ _ _); first | with_reducible refine Gd.t ?_ | with_reducible refine Gd.f ?_ | with_reducible refine Gd.dec (fun _ => ?_) (fun _ => ?_) | with_reducible refine Gd.beq (fun _ => ?_) (fun _ => ?_) | with_reducible refine Gd.bne (fun _ => ?_) (fun _ => ?_) | with_reducible refine Gd.not ?_ | refine Gd.t ?_ | refine Gd.f ?_ | with_reducible refine Gd.var (fun _ => ?_) (fun _ => ?_)) <;> first | (exfalso; omega) | skip) | with_reducible refine Sq.mk ?_ | ((with_reducible show Ld1 _ _ _); first | refine Ld1.h H ?_ | refine Ld1.rF ?_ | refine Ld1.r ?_) | ((with_reducible show Ld _ _ _ _); first | refine Ld.h H ?_ | refine Ld.r ?_) | ((with_reducible show Ix _ _ _ _ _); (first | refine Ix.h ?_ | refine Ix.ha ?_)) | (refine Al.hp H ?_; clear H; intro _ _ H _) | (refine St.h H ?_; clear H; intro _ H))
    all_goals first | (exfalso; omega) | skip
    all_goals
      refine ⟨i_eq ?_, H.e⟩
      simp only [rowFault, h5, if_true, hg]
      first | exact (if_pos (by assumption)).symm | exact (if_neg (fun hne => hne (by assumption))).symm
  · by_cases h7 : x.kd = 7
    · obtain ⟨k, hk⟩ : ∃ k : Nat, x.b = k := ⟨x.b.toNat, by have := hb h7; omega⟩
      have hkl : k < row.length := by have := hb h7; omega
      obtain ⟨y, hy⟩ : ∃ y, row[k]? = some y := ⟨_, List.getElem?_eq_getElem hkl⟩
      have hg : row[x.b.toNat]?.getD 0 = y := by rw [hk]; simp [hy]
      repeat' ((conv => whnf); first | (((with_reducible show Gd _ _ _); first | with_reducible refine Gd.t ?_ | with_reducible refine Gd.f ?_ | with_reducible refine Gd.dec (fun _ => ?_) (fun _ => ?_) | with_reducible refine Gd.beq (fun _ => ?_) (fun _ => ?_) | with_reducible refine Gd.bne (fun _ => ?_) (fun _ => ?_) | with_reducible refine Gd.not ?_ | refine Gd.t ?_ | refine Gd.f ?_ | with_reducible refine Gd.var (fun _ => ?_) (fun _ => ?_)) <;> first | (exfalso; omega) | skip) | with_reducible refine Sq.mk ?_ | ((with_reducible show Ld1 _ _ _); first | refine Ld1.h H ?_ | refine Ld1.rF ?_ | refine Ld1.r ?_) | ((with_reducible show Ld _ _ _ _); first | refine Ld.h H ?_ | refine Ld.r ?_) | ((with_reducible show Ix _ _ _ _ _); (first | refine Ix.h ?_ | refine Ix.ha ?_)) | (refine Al.hp H ?_; clear H; intro _ _ H _) | (refine St.h H ?_; clear H; intro _ H))
      all_goals first | (exfalso; omega) | skip
      all_goals
        refine ⟨i_eq ?_, H.e⟩
        simp only [rowFault, h5, h7, if_true, if_false, hg]
        first | exact (if_pos (by assumption)).symm | exact (if_neg (fun hne => hne (by assumption))).symm
    · by_cases h9 : x.kd = 9
      · repeat' ((conv => whnf); first | (((with_reducible show Gd _ _ _); first | with_reducible refine Gd.t ?_ | with_reducible refine Gd.f ?_ | with_reducible refine Gd.dec (fun _ => ?_) (fun _ => ?_) | with_reducible refine Gd.beq (fun _ => ?_) (fun _ => ?_) | with_reducible refine Gd.bne (fun _ => ?_) (fun _ => ?_) | with_reducible refine Gd.not ?_ | refine Gd.t ?_ | refine Gd.f ?_ | with_reducible refine Gd.var (fun _ => ?_) (fun _ => ?_)) <;> first | (exfalso; omega) | skip) | with_reducible refine Sq.mk ?_ | ((with_reducible show Ld1 _ _ _); first | refine Ld1.h H ?_ | refine Ld1.rF ?_ | refine Ld1.r ?_) | ((with_reducible show Ld _ _ _ _); first | refine Ld.h H ?_ | refine Ld.r ?_) | ((with_reducible show Ix _ _ _ _ _); (first | refine Ix.h ?_ | refine Ix.ha ?_)) | (refine Al.hp H ?_; clear H; intro _ _ H _) | (refine St.h H ?_; clear H; intro _ H))
        all_goals first | (exfalso; omega) | skip
        refine Lp.g0 T.ok (σ := Nat) (fun i => [(5, .int .i64 (i : Int)), (1, .slice q row.length c), (2, .pointer (some ⟨pf, 0, none⟩))])
          (fun i w' => i ≤ row.length ∧ (row.take i).any (fun m => decide (bitand m 2 ≠ 0)) = false ∧ Hp nw w w' [bk pf 35 x.v.cells.toList]) (fun i _ => row.length - i) 0 rfl ⟨rfl, rfl, rfl, trivial⟩ ⟨Nat.zero_le _, by simp, H⟩ ?_
        clear H
        rintro i w5 ⟨hi, hany, H⟩
        by_cases hlt : i < row.length
        · obtain ⟨y, hy⟩ : ∃ y, row[i]? = some y := ⟨_, List.getElem?_eq_getElem hlt⟩
          have hst := any_step (p := fun m => decide (bitand m 2 ≠ 0)) hy
          have hq5 := RdS.from H.e hq
          repeat' ((conv => whnf); first | (((with_reducible show Gd _ _ _); first | with_reducible refine Gd.t ?_ | with_reducible refine Gd.f ?_ | with_reducible refine Gd.dec (fun _ => ?_) (fun _ => ?_) | with_reducible refine Gd.beq (fun _ => ?_) (fun _ => ?_) | with_reducible refine Gd.bne (fun _ => ?_) (fun _ => ?_) | with_reducible refine Gd.not ?_ | refine Gd.t ?_ | refine Gd.f ?_ | with_reducible refine Gd.var (fun _ => ?_) (fun _ => ?_)) <;> first | (exfalso; omega) | skip) | with_reducible refine Sq.mk ?_ | ((with_reducible show Ld1 _ _ _); first | refine Ld1.h H ?_ | refine Ld1.rF ?_ | refine Ld1.r ?_) | ((with_reducible show Ld _ _ _ _); first | refine Ld.h H ?_ | refine Ld.r ?_) | ((with_reducible show Ix _ _ _ _ _); (first | refine Ix.h ?_ | refine Ix.ha ?_)) | (refine Al.hp H ?_; clear H; intro _ _ H _) | (refine St.h H ?_; clear H; intro _ H))
          · refine ⟨i_eq ?_, H.e⟩
            have : row.any (fun m => decide (bitand m 2 ≠ 0)) = true := List.any_eq_true.2 ⟨y, List.mem_of_getElem? hy, decide_eq_true (by assumption)⟩
            rw [rowFault, if_neg h5, if_neg h7, if_pos h9, if_pos this]
          · refine ⟨i + 1, ⟨at_int (m := ((i + 1 : Nat) : Int)) rfl (w64 (by simp) (by omega) (by omega)), rfl, rfl, trivial⟩, rfl, ⟨by omega, ?_, H⟩, by omega⟩
            rw [hst, hany, Bool.false_or]
            exact decide_eq_false (fun hne => hne (by assumption))
        · have hi : i = row.length := by omega
          subst hi
          rw [List.take_length] at hany
          repeat' ((conv => whnf); first | (((with_reducible show Gd _ _ _); first | with_reducible refine Gd.t ?_ | with_reducible refine Gd.f ?_ | with_reducible refine Gd.dec (fun _ => ?_) (fun _ => ?_) | with_reducible refine Gd.beq (fun _ => ?_) (fun _ => ?_) | with_reducible refine Gd.bne (fun _ => ?_) (fun _ => ?_) | with_reducible refine Gd.not ?_ | refine Gd.t ?_ | refine Gd.f ?_ | with_reducible refine Gd.var (fun _ => ?_) (fun _ => ?_)) <;> first | (exfalso; omega) | skip) | with_reducible refine Sq.mk ?_ | ((with_reducible show Ld1 _ _ _); first | refine Ld1.h H ?_ | refine Ld1.rF ?_ | refine Ld1.r ?_) | ((with_reducible show Ld _ _ _ _); first | refine Ld.h H ?_ | refine Ld.r ?_) | ((with_reducible show Ix _ _ _ _ _); (first | refine Ix.h ?_ | refine Ix.ha ?_)) | (refine Al.hp H ?_; clear H; intro _ _ H _) | (refine St.h H ?_; clear H; intro _ H))
          exact ⟨i_eq (by rw [rowFault, if_neg h5, if_neg h7, if_pos h9, hany]; rfl), H.e⟩
      · repeat' ((conv => whnf); first | (((with_reducible show Gd _ _ _); first | with_reducible refine Gd.t ?_ | with_reducible refine Gd.f ?_ | with_reducible refine Gd.dec (fun _ => ?_) (fun _ => ?_) | with_reducible refine Gd.beq (fun _ => ?_) (fun _ => ?_) | with_reducible refine Gd.bne (fun _ => ?_) (fun _ => ?_) | with_reducible refine Gd.not ?_ | refine Gd.t ?_ | refine Gd.f ?_ | with_reducible refine Gd.var (fun _ => ?_) (fun _ => ?_)) <;> first | (exfalso; omega) | skip) | with_reducible refine Sq.mk ?_ | ((with_reducible show Ld1 _ _ _); first | refine Ld1.h H ?_ | refine Ld1.rF ?_ | refine Ld1.r ?_) | ((with_reducible show Ld _ _ _ _); first | refine Ld.h H ?_ | refine Ld.r ?_) | ((with_reducible show Ix _ _ _ _ _); (first | refine Ix.h ?_ | refine Ix.ha ?_)) | (refine Al.hp H ?_; clear H; intro _ _ H _) | (refine St.h H ?_; clear H; intro _ H))
        all_goals first | (exfalso; omega) | skip
        all_goals exact ⟨i_eq (by simp [rowFault, h5, h7, h9]), H.e⟩
end Go.Proofs.YtbbadmlekagloaaDoor
namespace Go.Proofs.YtbbadmlekagloaaDoor
open Go Go.Sh
set_option linter.unusedVariables false
set_option linter.unusedSimpArgs false
attribute [local irreducible] Blk Ext RdS
/-- the first that answers, with its number -/
def fs1 {α β : Type} (g : Nat → α → Option β) : List α → Nat → Option (Nat × β)
  | [], _ => none
  | x :: r, i => match g i x with
    | some b => some (i, b)
    | none => fs1 g r (i + 1)
theorem fs1_yes {α β : Type} {g : Nat → α → Option β} {l : List α} {i j : Nat} {x : α} {b : β} (h : l[i]? = some x) (hg : g j x = some b) : fs1 g (l.drop i) j = some (j, b) := by
  obtain ⟨h1, h2⟩ := List.getElem?_eq_some_iff.1 h
  rw [List.drop_eq_getElem_cons h1, h2]
  simp [fs1, hg]
theorem fs1_no {α β : Type} {g : Nat → α → Option β} {l : List α} {i j : Nat} {x : α} (h : l[i]? = some x) (hg : g j x = none) : fs1 g (l.drop i) j = fs1 g (l.drop (i + 1)) (j + 1) := by
  obtain ⟨h1, h2⟩ := List.getElem?_eq_some_iff.1 h
  rw [List.drop_eq_getElem_cons h1, h2]
  simp [fs1, hg]
theorem fs1_end {α β : Type} {g : Nat → α → Option β} {l : List α} {i : Nat} (h : l.length ≤ i) (j : Nat) : fs1 g (l.drop i) j = none := by
  rw [List.drop_of_length_le h]; rfl
def insG (fs : List Fn) (f : Fn) (_ : Nat) (c : Ins) : Option Unit := if aloneB f c && calledB fs f c then none else some ()
def ins1 (fs : List Fn) (f : Fn) : Option (Int × Nat) := match fs1 (insG fs f) f.code 0 with
  | some (k, _) => some (52, k)
  | none => if endsB f then none else some (53, f.code.length - 1)
noncomputable def slotG (f : Fn) (k : Nat) (c : Ins) : Option Int := if rowFault c (rowL f.slots.toNat (flwG f k)) = 0 then none else some (rowFault c (rowL f.slots.toNat (flwG f k)))
noncomputable def slot1 (f : Fn) : Option (Int × Nat) := (fs1 (slotG f) f.code 0).map fun x => (x.2, x.1)
/-- what Check answers: the error, the function, the place -/
noncomputable def checkL (fs : List Fn) : Int × Nat × Nat :=
  if fs.length < 1 ∨ 32 < fs.length then (50, 0, 0) else
  match fs1 (fun _ f => if shapedB f then none else some ()) fs 0 with
  | some (i, _) => (51, i, 0)
  | none => match fs1 (fun _ f => ins1 fs f) fs 0 with
    | some (i, e, k) => (e, i, k)
    | none => match fs1 (fun _ f => slot1 f) fs 0 with
      | some (i, e, k) => (e, i, k)
      | none => (0, 0, 0)
def fv3 (e : Int) (i k : Nat) : Value := .agg #[.int .i64 e, .int .i64 i, .int .i64 k]
def fvV (x : Int × Nat × Nat) : Value := fv3 x.1 x.2.1 x.2.2
theorem instructions_c (n : Nat) (f : Fn) (A : Option Addr) (c : Nat) (B : Option Addr) (l : List FE) (d : Nat) (w : World) (hG : RdG w) (hA : RdC w A f.code) (hB : RdS FE.enc 4 w B l) (hne : l ≠ []) (hll : l.length ≤ 32) (hf : shapedB f = true) (hs : ∀ y ∈ l, 0 ≤ y.1.params ∧ y.1.params ≤ 8) :
    Cl Tryd.prog 66 #[.int .i64 (n : Int), f.v A c, .slice B l.length d] w (fun _ w' => ins1 (fns l) f = none ∧ Ext w w')
      (fun ch w' => ∃ e k, ins1 (fns l) f = some (e, k) ∧ ch = [{ v := .iface 92 (fv3 e n k), recovered := false }] ∧ Ext w w') := by
  obtain ⟨hl1, hl2⟩ := shaped_len hf
  have hr : 1 ≤ f.regs ∧ f.regs ≤ 16 := by simp only [shapedB, decide_eq_true_eq] at hf; omega
  have hwl : IntKind.i64.wrap ((f.code.length : Int) - 1) = ((f.code.length - 1 : Nat) : Int) := w64 (by omega) (by omega) (by omega)
  refine calls_ex (args := [.int .i64 (n : Int), f.v A c, .slice B l.length d]) T.ok Tryd.func66 rfl rfl rfl rfl ?_
  have H := Hp.begin nw w
  refine Sq.mk ?_
  ((conv => whnf); refine Al.hp H ?_; clear H; intro pf _ H _)
  repeat' ((conv => whnf); first | (((with_reducible show Gd _ _ _); first | with_reducible refine Gd.t ?_ | with_reducible refine Gd.f ?_ | with_reducible refine Gd.dec (fun _ => ?_) (fun _ => ?_) | with_reducible refine Gd.beq (fun _ => ?_) (fun _ => ?_) | with_reducible refine Gd.bne (fun _ => ?_) (fun _ => ?_) | with_reducible refine Gd.not ?_ | refine Gd.t ?_ | refine Gd.f ?_ | with_reducible refine Gd.var (fun _ => ?_) (fun _ => ?_)) <;> first | (exfalso; omega) | skip) | with_reducible refine Sq.mk ?_ | ((with_reducible show Ld1 _ _ _); first | refine Ld1.h H ?_ | refine Ld1.rF ?_ | refine Ld1.r ?_) | ((with_reducible show Ld _ _ _ _); first | refine Ld.h H ?_ | refine Ld.r ?_) | ((with_reducible show Ix _ _ _ _ _); (first | refine Ix.h ?_ | refine Ix.ha ?_)) | (refine Al.hp H ?_; clear H; intro _ _ H _) | (refine St.h H ?_; clear H; intro _ H))
  refine Lp.g0 T.ok (σ := Nat) (fun i => [(11, .int .i64 (i : Int)), (10, .int .i64 (f.code.length : Int)), (9, .slice A f.code.length c), (4, .pointer (some ⟨pf, 0, none⟩)), (2, .slice B l.length d), (0, .int .i64 (n : Int))])
    (fun i w' => i ≤ f.code.length ∧ fs1 (insG (fns l) f) f.code 0 = fs1 (insG (fns l) f) (f.code.drop i) i ∧ Hp nw w w' [bk pf 24 (f.v A c).cells.toList]) (fun i _ => f.code.length - i) 0 rfl ⟨rfl, rfl, rfl, rfl, rfl, rfl, trivial⟩ ⟨Nat.zero_le _, rfl, H⟩ ?_
  clear H
  rintro i w5 ⟨hi, hfs, H⟩
  by_cases hlt : i < f.code.length
  · obtain ⟨x, hx⟩ : ∃ x, f.code[i]? = some x := ⟨_, List.getElem?_eq_getElem hlt⟩
    have hA5 := RdS.from H.e hA
    repeat' (first | ((conv => whnf); first | (((with_reducible show Gd _ _ _); first | with_reducible refine Gd.t ?_ | with_reducible refine Gd.f ?_ | with_reducible refine Gd.dec (fun _ => ?_) (fun _ => ?_) | with_reducible refine Gd.beq (fun _ => ?_) (fun _ => ?_) | with_reducible refine Gd.bne (fun _ => ?_) (fun _ => ?_) | with_reducible refine Gd.not ?_ | refine Gd.t ?_ | refine Gd.f ?_ | with_reducible refine Gd.var (fun _ => ?_) (fun _ => ?_)) <;> first | (exfalso; omega) | skip) | with_reducible refine Sq.mk ?_ | ((with_reducible show Ld1 _ _ _); first | refine Ld1.h H ?_ | refine Ld1.rF ?_ | refine Ld1.r ?_) | ((with_reducible show Ld _ _ _ _); first | refine Ld.h H ?_ | refine Ld.r ?_) | ((with_reducible show Ix _ _ _ _ _); (first | refine Ix.h ?_ | refine Ix.ha ?_)) | (refine Al.hp H ?_; clear H; intro _ _ H _) | (refine St.h H ?_; clear H; intro _ H)) | (((conv => whnf); refine Cl.mk (instrOK_all f A c x B l d _ (RdS.from H.e hG) (RdS.from H.e hB) hne hll hr hs) ?_); rintro _ _ ⟨rfl, hx⟩; replace H := H.ext hx; clear hx))
    · rename_i hb
      have hg : insG (fns l) f i x = none := by rw [insG, hb]; rfl
      rw [fs1_no hx hg] at hfs
      exact ⟨i + 1, ⟨at_int (m := ((i + 1 : Nat) : Int)) rfl (w64 (by simp) (by omega) (by omega)), rfl, rfl, rfl, rfl, rfl, trivial⟩, rfl, ⟨by omega, hfs, H.d0⟩, by omega⟩
    · rename_i hb
      have hg : insG (fns l) f i x = some () := by rw [insG, hb]; rfl
      have hy := fs1_yes (j := i) hx hg
      rw [hy] at hfs
      exact ⟨52, i, by simp only [ins1, hfs], rfl, H.e⟩
  · have hi : i = f.code.length := by omega
    subst hi
    rw [fs1_end (Nat.le_refl _)] at hfs
    repeat' (first | ((conv => whnf); first | (((with_reducible show Gd _ _ _); first | with_reducible refine Gd.t ?_ | with_reducible refine Gd.f ?_ | with_reducible refine Gd.dec (fun _ => ?_) (fun _ => ?_) | with_reducible refine Gd.beq (fun _ => ?_) (fun _ => ?_) | with_reducible refine Gd.bne (fun _ => ?_) (fun _ => ?_) | with_reducible refine Gd.not ?_ | refine Gd.t ?_ | refine Gd.f ?_ | with_reducible refine Gd.var (fun _ => ?_) (fun _ => ?_)) <;> first | (exfalso; omega) | skip) | with_reducible refine Sq.mk ?_ | ((with_reducible show Ld1 _ _ _); first | refine Ld1.h H ?_ | refine Ld1.rF ?_ | refine Ld1.r ?_) | ((with_reducible show Ld _ _ _ _); first | refine Ld.h H ?_ | refine Ld.r ?_) | ((with_reducible show Ix _ _ _ _ _); (first | refine Ix.h ?_ | refine Ix.ha ?_)) | (refine Al.hp H ?_; clear H; intro _ _ H _) | (refine St.h H ?_; clear H; intro _ H)) | (((conv => whnf); refine Cl.mk (lastOK_c f A c _ (RdS.from H.e hA) hl1 hl2) ?_); rintro _ _ ⟨rfl, hx⟩; replace H := H.ext hx; clear hx))
    · rename_i hb
      exact ⟨by rw [ins1, hfs]; simp [hb], H.e⟩
    · rename_i hb
      exact ⟨53, f.code.length - 1, by rw [ins1, hfs]; simp [hb], by rw [hwl]; rfl, H.e⟩
theorem sound_at {f : Fn} (hS : soundB f = true) {i : Nat} {x : Ins} (hx : f.code[i]? = some x) : (x.kd = 5 → 0 ≤ x.a ∧ x.a < f.slots) ∧ (x.kd = 7 → 0 ≤ x.b ∧ x.b < f.slots) := by
  simp only [soundB, Bool.and_eq_true, List.all_eq_true] at hS
  have h := hS.1.2 x (List.mem_of_getElem? hx)
  refine ⟨fun h5 => ?_, fun h7 => ?_⟩
  · simpa [aloneB, h5, belowB] using h
  · have := h; simp [aloneB, h7, belowB] at this; exact this.2
set_option maxHeartbeats 1000000 in
theorem slots_c (n : Nat) (f : Fn) (A : Option Addr) (c : Nat) (w : World) (hG : RdG w) (hA : RdC w A f.code) (hS : soundB f = true) :
    Cl Tryd.prog 67 #[.int .i64 (n : Int), f.v A c] w (fun _ w' => slot1 f = none ∧ Ext w w')
      (fun ch w' => ∃ e k, slot1 f = some (e, k) ∧ ch = [{ v := .iface 92 (fv3 e n k), recovered := false }] ∧ Ext w w') := by
  have hsh : shapedB f = true := by simp only [soundB, Bool.and_eq_true] at hS; exact hS.1.1
  obtain ⟨hl1, hl2⟩ := shaped_len hsh
  obtain ⟨m, hm, hm8⟩ := slots_nat hsh
  have hmt : f.slots.toNat = m := by omega
  refine calls_ex (args := [.int .i64 (n : Int), f.v A c]) T.ok Tryd.func67 rfl rfl rfl rfl ?_
  have H := Hp.begin nw w
  refine Sq.mk ?_
  ((conv => whnf); refine Al.hp H ?_; clear H; intro pf _ H _)
  repeat' ((conv => whnf); first | (((with_reducible show Gd _ _ _); first | with_reducible refine Gd.t ?_ | with_reducible refine Gd.f ?_ | with_reducible refine Gd.dec (fun _ => ?_) (fun _ => ?_) | with_reducible refine Gd.beq (fun _ => ?_) (fun _ => ?_) | with_reducible refine Gd.bne (fun _ => ?_) (fun _ => ?_) | with_reducible refine Gd.not ?_ | refine Gd.t ?_ | refine Gd.f ?_ | with_reducible refine Gd.var (fun _ => ?_) (fun _ => ?_)) <;> first | (exfalso; omega) | skip) | with_reducible refine Sq.mk ?_ | ((with_reducible show Ld1 _ _ _); first | refine Ld1.h H ?_ | refine Ld1.rF ?_ | refine Ld1.r ?_) | ((with_reducible show Ld _ _ _ _); first | refine Ld.h H ?_ | refine Ld.r ?_) | ((with_reducible show Ix _ _ _ _ _); (first | refine Ix.h ?_ | refine Ix.ha ?_)) | (refine Al.hp H ?_; clear H; intro _ _ H _) | (refine St.h H ?_; clear H; intro _ H))
  ((conv => whnf); refine Cl.mk (states_c f A c m _ (RdS.from H.e hA) (RdS.from H.e hG) hS hm hm8) ?_)
  rintro _ w2 ⟨p, ps, rfl, hpl2, hM, e⟩
  replace H := H.fr0 (mx_new hM e) (.inl rfl)
  clear hM e
  obtain ⟨bb, H⟩ : ∃ bb, Hp nw w w2 [mxk bb p f.code.length m ps (flwG f), bk pf 24 (f.v A c).cells.toList] := ⟨_, H⟩
  repeat' ((conv => whnf); first | (((with_reducible show Gd _ _ _); first | with_reducible refine Gd.t ?_ | with_reducible refine Gd.f ?_ | with_reducible refine Gd.dec (fun _ => ?_) (fun _ => ?_) | with_reducible refine Gd.beq (fun _ => ?_) (fun _ => ?_) | with_reducible refine Gd.bne (fun _ => ?_) (fun _ => ?_) | with_reducible refine Gd.not ?_ | refine Gd.t ?_ | refine Gd.f ?_ | with_reducible refine Gd.var (fun _ => ?_) (fun _ => ?_)) <;> first | (exfalso; omega) | skip) | with_reducible refine Sq.mk ?_ | ((with_reducible show Ld1 _ _ _); first | refine Ld1.h H ?_ | refine Ld1.rF ?_ | refine Ld1.r ?_) | ((with_reducible show Ld _ _ _ _); first | refine Ld.h H ?_ | refine Ld.r ?_) | ((with_reducible show Ix _ _ _ _ _); (first | refine Ix.h ?_ | refine Ix.ha ?_)) | (refine Al.hp H ?_; clear H; intro _ _ H _) | (refine St.h H ?_; clear H; intro _ H))
  refine Lp.g0 T.ok (σ := Nat) (fun i => [(15, .int .i64 (i : Int)), (14, .int .i64 (f.code.length : Int)), (13, .slice A f.code.length c), (4, .slice (some ⟨p, 0, none⟩) f.code.length f.code.length), (3, .pointer (some ⟨pf, 0, none⟩)), (0, .int .i64 (n : Int))])
    (fun i w' => i ≤ f.code.length ∧ fs1 (slotG f) f.code 0 = fs1 (slotG f) (f.code.drop i) i ∧ Hp nw w w' [mxk bb p f.code.length m ps (flwG f), bk pf 24 (f.v A c).cells.toList]) (fun i _ => f.code.length - i) 0 rfl ⟨rfl, rfl, rfl, rfl, rfl, rfl, trivial⟩ ⟨Nat.zero_le _, rfl, H⟩ ?_
  clear H
  rintro i w5 ⟨hi, hfs, H⟩
  by_cases hlt : i < f.code.length
  · obtain ⟨x, hx⟩ : ∃ x, f.code[i]? = some x := ⟨_, List.getElem?_eq_getElem hlt⟩
    obtain ⟨q, hq⟩ : ∃ q, ps[i]? = some q := ⟨_, List.getElem?_eq_getElem (by omega)⟩
    obtain ⟨h5, h7⟩ := sound_at hS hx
    have hA5 := RdS.from H.e hA
    have hgo : rowFault x (rowL m (flwG f i)) = 0 → fs1 (slotG f) f.code 0 = fs1 (slotG f) (f.code.drop (i + 1)) (i + 1) := fun h0 => by
      rw [hfs, fs1_no hx]
      simp only [slotG, hmt]; rw [if_pos h0]
    have hstop : rowFault x (rowL m (flwG f i)) ≠ 0 → slot1 f = some (rowFault x (rowL m (flwG f i)), i) := fun h0 => by
      have hg : slotG f i x = some (rowFault x (rowL m (flwG f i))) := by simp only [slotG, hmt]; rw [if_neg h0]
      rw [slot1, hfs, fs1_yes hx hg]; rfl
    repeat' ((conv => whnf); first | (((with_reducible show Gd _ _ _); first | with_reducible refine Gd.t ?_ | with_reducible refine Gd.f ?_ | with_reducible refine Gd.dec (fun _ => ?_) (fun _ => ?_) | with_reducible refine Gd.beq (fun _ => ?_) (fun _ => ?_) | with_reducible refine Gd.bne (fun _ => ?_) (fun _ => ?_) | with_reducible refine Gd.not ?_ | refine Gd.t ?_ | refine Gd.f ?_ | with_reducible refine Gd.var (fun _ => ?_) (fun _ => ?_)) <;> first | (exfalso; omega) | skip) | with_reducible refine Sq.mk ?_ | ((with_reducible show Ld1 _ _ _); first | refine Ld1.h H ?_ | refine Ld1.rF ?_ | refine Ld1.r ?_) | ((with_reducible show Ld _ _ _ _); first | refine Ld.h H ?_ | refine Ld.r ?_) | ((with_reducible show Ix _ _ _ _ _); (first | refine Ix.h ?_ | refine Ix.ha ?_)) | (refine St.h H ?_; clear H; intro _ H))
    ((conv => whnf); refine Al.hp H ?_; clear H; intro pc _ H _)
    repeat' ((conv => whnf); first | (((with_reducible show Gd _ _ _); first | with_reducible refine Gd.t ?_ | with_reducible refine Gd.f ?_ | with_reducible refine Gd.dec (fun _ => ?_) (fun _ => ?_) | with_reducible refine Gd.beq (fun _ => ?_) (fun _ => ?_) | with_reducible refine Gd.bne (fun _ => ?_) (fun _ => ?_) | with_reducible refine Gd.not ?_ | refine Gd.t ?_ | refine Gd.f ?_ | with_reducible refine Gd.var (fun _ => ?_) (fun _ => ?_)) <;> first | (exfalso; omega) | skip) | with_reducible refine Sq.mk ?_ | ((with_reducible show Ld1 _ _ _); first | refine Ld1.h H ?_ | refine Ld1.rF ?_ | refine Ld1.r ?_) | ((with_reducible show Ld _ _ _ _); first | refine Ld.h H ?_ | refine Ld.r ?_) | ((with_reducible show Ix _ _ _ _ _); (first | refine Ix.h ?_ | refine Ix.ha ?_)) | (refine Al.hp H ?_; clear H; intro _ _ H _) | (refine St.h H ?_; clear H; intro _ H))
    · -- a spawn
      have hM : Mx _ bb p f.code.length m ps (flwG f) := H.atC 1 rfl
      have hr := hM.rd (by omega)
      have hat := hM.at hq
      have hrow := rd_full (hM.row i q hq) (fun _ _ => rfl)
      have hlen := hM.len
      have hlen2 := rowL_len m (flwG f i)
      obtain ⟨s, hs⟩ : ∃ s : Nat, x.a = s := ⟨x.a.toNat, by have := h5 (by assumption); omega⟩
      have hsm : s < m := by have := h5 (by assumption); omega
      have hg := rowL_at (g := flwG f i) hsm
      have hgt : (rowL m (flwG f i))[x.a.toNat]?.getD 0 = flwG f i s := by rw [hs]; simp [hg]
      ((conv => whnf); refine Dr.quiet T.ok mixed (by kernel_rfl) (fun W hW => ?_))
      repeat' ((conv => whnf); first | (((with_reducible show Gd _ _ _); first | with_reducible refine Gd.t ?_ | with_reducible refine Gd.f ?_ | with_reducible refine Gd.dec (fun _ => ?_) (fun _ => ?_) | with_reducible refine Gd.beq (fun _ => ?_) (fun _ => ?_) | with_reducible refine Gd.bne (fun _ => ?_) (fun _ => ?_) | with_reducible refine Gd.not ?_ | refine Gd.t ?_ | refine Gd.f ?_ | with_reducible refine Gd.var (fun _ => ?_) (fun _ => ?_)) <;> first | (exfalso; omega) | skip) | ((with_reducible show QLd1 _ _ _); first | refine QLd1.h hW H ?_ | refine QLd1.rF hW ?_ | refine QLd1.r hW ?_) | ((with_reducible show QLd _ _ _ _); first | refine QLd.h hW H ?_ | refine QLd.r hW ?_) | ((with_reducible show Ix _ _ _ _ _); (first | refine Ix.h ?_ | refine Ix.ha ?_)))
      (intro _ eT; replace H := H.ext eT; clear hW eT)
      clear hr hrow
      repeat' ((conv => whnf); first | (((with_reducible show Gd _ _ _); first | with_reducible refine Gd.t ?_ | with_reducible refine Gd.f ?_ | with_reducible refine Gd.dec (fun _ => ?_) (fun _ => ?_) | with_reducible refine Gd.beq (fun _ => ?_) (fun _ => ?_) | with_reducible refine Gd.bne (fun _ => ?_) (fun _ => ?_) | with_reducible refine Gd.not ?_ | refine Gd.t ?_ | refine Gd.f ?_ | with_reducible refine Gd.var (fun _ => ?_) (fun _ => ?_)) <;> first | (exfalso; omega) | skip) | with_reducible refine Sq.mk ?_ | ((with_reducible show Ld1 _ _ _); first | refine Ld1.h H ?_ | refine Ld1.rF ?_ | refine Ld1.r ?_) | ((with_reducible show Ld _ _ _ _); first | refine Ld.h H ?_ | refine Ld.r ?_) | ((with_reducible show Ix _ _ _ _ _); (first | refine Ix.h ?_ | refine Ix.ha ?_)) | (refine Al.hp H ?_; clear H; intro _ _ H _) | (refine St.h H ?_; clear H; intro _ H))
      all_goals first | (exfalso; omega) | skip
      · have hv : rowFault x (rowL m (flwG f i)) = 54 := by rw [rowFault, if_pos (by assumption), hgt]; exact if_pos (by assumption)
        exact ⟨54, i, by rw [← hv]; exact hstop (by rw [hv]; decide), rfl, H.e⟩
      · have hv : rowFault x (rowL m (flwG f i)) = 0 := by rw [rowFault, if_pos (by assumption), hgt]; exact if_neg (fun hne => hne (by assumption))
        exact ⟨i + 1, ⟨at_int (m := ((i + 1 : Nat) : Int)) rfl (w64 (by simp) (by omega) (by omega)), rfl, rfl, rfl, rfl, rfl, trivial⟩, rfl, ⟨by omega, hgo hv, H.d0⟩, by omega⟩
    · -- a load
      have hM : Mx _ bb p f.code.length m ps (flwG f) := H.atC 1 rfl
      have hr := hM.rd (by omega)
      have hat := hM.at hq
      have hrow := rd_full (hM.row i q hq) (fun _ _ => rfl)
      have hlen := hM.len
      have hlen2 := rowL_len m (flwG f i)
      obtain ⟨s, hs⟩ : ∃ s : Nat, x.b = s := ⟨x.b.toNat, by have := h7 (by assumption); omega⟩
      have hsm : s < m := by have := h7 (by assumption); omega
      have hg := rowL_at (g := flwG f i) hsm
      have hgt : (rowL m (flwG f i))[x.b.toNat]?.getD 0 = flwG f i s := by rw [hs]; simp [hg]
      ((conv => whnf); refine Dr.quiet T.ok mixed (by kernel_rfl) (fun W hW => ?_))
      repeat' ((conv => whnf); first | (((with_reducible show Gd _ _ _); first | with_reducible refine Gd.t ?_ | with_reducible refine Gd.f ?_ | with_reducible refine Gd.dec (fun _ => ?_) (fun _ => ?_) | with_reducible refine Gd.beq (fun _ => ?_) (fun _ => ?_) | with_reducible refine Gd.bne (fun _ => ?_) (fun _ => ?_) | with_reducible refine Gd.not ?_ | refine Gd.t ?_ | refine Gd.f ?_ | with_reducible refine Gd.var (fun _ => ?_) (fun _ => ?_)) <;> first | (exfalso; omega) | skip) | ((with_reducible show QLd1 _ _ _); first | refine QLd1.h hW H ?_ | refine QLd1.rF hW ?_ | refine QLd1.r hW ?_) | ((with_reducible show QLd _ _ _ _); first | refine QLd.h hW H ?_ | refine QLd.r hW ?_) | ((with_reducible show Ix _ _ _ _ _); (first | refine Ix.h ?_ | refine Ix.ha ?_)))
      (intro _ eT; replace H := H.ext eT; clear hW eT)
      clear hr hrow
      repeat' ((conv => whnf); first | (((with_reducible show Gd _ _ _); first | with_reducible refine Gd.t ?_ | with_reducible refine Gd.f ?_ | with_reducible refine Gd.dec (fun _ => ?_) (fun _ => ?_) | with_reducible refine Gd.beq (fun _ => ?_) (fun _ => ?_) | with_reducible refine Gd.bne (fun _ => ?_) (fun _ => ?_) | with_reducible refine Gd.not ?_ | refine Gd.t ?_ | refine Gd.f ?_ | with_reducible refine Gd.var (fun _ => ?_) (fun _ => ?_)) <;> first | (exfalso; omega) | skip) | with_reducible refine Sq.mk ?_ | ((with_reducible show Ld1 _ _ _); first | refine Ld1.h H ?_ | refine Ld1.rF ?_ | refine Ld1.r ?_) | ((with_reducible show Ld _ _ _ _); first | refine Ld.h H ?_ | refine Ld.r ?_) | ((with_reducible show Ix _ _ _ _ _); (first | refine Ix.h ?_ | refine Ix.ha ?_)) | (refine Al.hp H ?_; clear H; intro _ _ H _) | (refine St.h H ?_; clear H; intro _ H))
      all_goals first | (exfalso; omega) | skip
      · have hv : rowFault x (rowL m (flwG f i)) = 55 := by rw [rowFault, if_neg (by assumption), if_pos (by assumption), hgt]; exact if_pos (by assumption)
        exact ⟨55, i, by rw [← hv]; exact hstop (by rw [hv]; decide), rfl, H.e⟩
      · have hv : rowFault x (rowL m (flwG f i)) = 0 := by rw [rowFault, if_neg (by assumption), if_pos (by assumption), hgt]; exact if_neg (fun hne => hne (by assumption))
        exact ⟨i + 1, ⟨at_int (m := ((i + 1 : Nat) : Int)) rfl (w64 (by simp) (by omega) (by omega)), rfl, rfl, rfl, rfl, rfl, trivial⟩, rfl, ⟨by omega, hgo hv, H.d0⟩, by omega⟩
    · -- a return
      have hM : Mx _ bb p f.code.length m ps (flwG f) := H.atC 1 rfl
      have hr := hM.rd (by omega)
      have hat := hM.at hq
      have hrow := rd_full (hM.row i q hq) (fun _ _ => rfl)
      have hlen := hM.len
      have hlen2 := rowL_len m (flwG f i)
      repeat' ((conv => whnf); first | (((with_reducible show Gd _ _ _); first | with_reducible refine Gd.t ?_ | with_reducible refine Gd.f ?_ | with_reducible refine Gd.dec (fun _ => ?_) (fun _ => ?_) | with_reducible refine Gd.beq (fun _ => ?_) (fun _ => ?_) | with_reducible refine Gd.bne (fun _ => ?_) (fun _ => ?_) | with_reducible refine Gd.not ?_ | refine Gd.t ?_ | refine Gd.f ?_ | with_reducible refine Gd.var (fun _ => ?_) (fun _ => ?_)) <;> first | (exfalso; omega) | skip) | with_reducible refine Sq.mk ?_ | ((with_reducible show Ld1 _ _ _); first | refine Ld1.h H ?_ | refine Ld1.rF ?_ | refine Ld1.r ?_) | ((with_reducible show Ld _ _ _ _); first | refine Ld.h H ?_ | refine Ld.r ?_) | ((with_reducible show Ix _ _ _ _ _); (first | refine Ix.h ?_ | refine Ix.ha ?_)) | (refine Al.hp H ?_; clear H; intro _ _ H _) | (refine St.h H ?_; clear H; intro _ H))
      clear hr hrow hM
      refine Lp.g0 T.ok (σ := Nat) (fun k => [(53, .int .i64 (k : Int)), (52, .int .i64 ((rowL m (flwG f i)).length : Int)), (51, .slice (some ⟨q, 0, none⟩) (rowL m (flwG f i)).length (rowL m (flwG f i)).length), (7, .int .i64 (if ((rowL m (flwG f i)).take k).any (fun m => decide (bitand m 2 ≠ 0)) then 56 else 0)),
          (15, .int .i64 (i : Int)), (14, .int .i64 (f.code.length : Int)), (13, .slice A f.code.length c), (6, .pointer (some ⟨pc, 0, none⟩)), (5, .int .i64 (i : Int)), (4, .slice (some ⟨p, 0, none⟩) f.code.length f.code.length), (3, .pointer (some ⟨pf, 0, none⟩)), (0, .int .i64 (n : Int))])
        (fun k w' => k ≤ (rowL m (flwG f i)).length ∧ Hp nw w w' [bk pc 35 x.enc, mxk bb p f.code.length m ps (flwG f), bk pf 24 (f.v A c).cells.toList]) (fun k _ => (rowL m (flwG f i)).length - k) 0 rfl
        ⟨rfl, at_int rfl (by rw [hlen2]), at_val rfl (by rw [hlen2]; rfl), rfl, rfl, rfl, rfl, rfl, rfl, rfl, rfl, rfl, trivial⟩ ⟨Nat.zero_le _, H⟩ ?_
      clear H
      rintro k w6 ⟨hk, H⟩
      have hM : Mx _ bb p f.code.length m ps (flwG f) := H.atC 1 rfl
      have hrow := rd_full (hM.row i q hq) (fun _ _ => rfl)
      by_cases hkl : k < (rowL m (flwG f i)).length
      · obtain ⟨y, hy⟩ : ∃ y, (rowL m (flwG f i))[k]? = some y := ⟨_, List.getElem?_eq_getElem hkl⟩
        have hst := any_step (p := fun m => decide (bitand m 2 ≠ 0)) hy
        repeat' ((conv => whnf); first | (((with_reducible show Gd _ _ _); first | with_reducible refine Gd.t ?_ | with_reducible refine Gd.f ?_ | with_reducible refine Gd.dec (fun _ => ?_) (fun _ => ?_) | with_reducible refine Gd.beq (fun _ => ?_) (fun _ => ?_) | with_reducible refine Gd.bne (fun _ => ?_) (fun _ => ?_) | with_reducible refine Gd.not ?_ | refine Gd.t ?_ | refine Gd.f ?_ | with_reducible refine Gd.var (fun _ => ?_) (fun _ => ?_)) <;> first | (exfalso; omega) | skip) | with_reducible refine Sq.mk ?_ | ((with_reducible show Ld1 _ _ _); first | refine Ld1.h H ?_ | refine Ld1.rF ?_ | refine Ld1.r ?_) | ((with_reducible show Ld _ _ _ _); first | refine Ld.h H ?_ | refine Ld.r ?_) | ((with_reducible show Ix _ _ _ _ _); (first | refine Ix.h ?_ | refine Ix.ha ?_)) | (refine Al.hp H ?_; clear H; intro _ _ H _) | (refine St.h H ?_; clear H; intro _ H))
        · refine ⟨k + 1, ⟨at_int rfl (w64 (by simp) (by omega) (by omega)), rfl, rfl, at_val rfl (i_eq ?_), rfl, rfl, rfl, rfl, rfl, rfl, rfl, rfl, trivial⟩, rfl, ⟨by omega, H⟩, by omega⟩
          rw [hst, decide_eq_true (by assumption), Bool.or_true]; rfl
        · refine ⟨k + 1, ⟨at_int rfl (w64 (by simp) (by omega) (by omega)), rfl, rfl, at_val rfl (i_eq ?_), rfl, rfl, rfl, rfl, rfl, rfl, rfl, rfl, trivial⟩, rfl, ⟨by omega, H⟩, by omega⟩
          rw [hst, decide_eq_false (fun hne => hne (by assumption)), Bool.or_false]
      · have hk : k = (rowL m (flwG f i)).length := by omega
        subst hk
        have hv : rowFault x (rowL m (flwG f i)) = if ((rowL m (flwG f i)).take (rowL m (flwG f i)).length).any (fun m => decide (bitand m 2 ≠ 0)) then 56 else 0 := by
          rw [rowFault, if_neg (by assumption), if_neg (by assumption), if_pos (by assumption), List.take_length]
        clear hM hrow
        repeat' ((conv => whnf); first | (((with_reducible show Gd _ _ _); first | with_reducible refine Gd.t ?_ | with_reducible refine Gd.f ?_ | with_reducible refine Gd.dec (fun _ => ?_) (fun _ => ?_) | with_reducible refine Gd.beq (fun _ => ?_) (fun _ => ?_) | with_reducible refine Gd.bne (fun _ => ?_) (fun _ => ?_) | with_reducible refine Gd.not ?_ | refine Gd.t ?_ | refine Gd.f ?_ | with_reducible refine Gd.var (fun _ => ?_) (fun _ => ?_)) <;> first | (exfalso; omega) | skip) | with_reducible refine Sq.mk ?_ | ((with_reducible show Ld1 _ _ _); first | refine Ld1.h H ?_ | refine Ld1.rF ?_ | refine Ld1.r ?_) | ((with_reducible show Ld _ _ _ _); first | refine Ld.h H ?_ | refine Ld.r ?_) | ((with_reducible show Ix _ _ _ _ _); (first | refine Ix.h ?_ | refine Ix.ha ?_)) | (refine Al.hp H ?_; clear H; intro _ _ H _) | (refine St.h H ?_; clear H; intro _ H))
        · rw [← hv]
          exact ⟨_, i, hstop (by rw [hv]; assumption), rfl, H.e⟩
        · exact ⟨i + 1, ⟨at_int (m := ((i + 1 : Nat) : Int)) rfl (w64 (by simp) (by omega) (by omega)), rfl, rfl, rfl, rfl, rfl, trivial⟩, rfl, ⟨by omega, hgo (by rw [hv]; assumption), H.d0⟩, by omega⟩
    · have hv : rowFault x (rowL m (flwG f i)) = 0 := by rw [rowFault, if_neg (by assumption), if_neg (by assumption), if_neg (by assumption)]
      repeat' ((conv => whnf); first | (((with_reducible show Gd _ _ _); first | with_reducible refine Gd.t ?_ | with_reducible refine Gd.f ?_ | with_reducible refine Gd.dec (fun _ => ?_) (fun _ => ?_) | with_reducible refine Gd.beq (fun _ => ?_) (fun _ => ?_) | with_reducible refine Gd.bne (fun _ => ?_) (fun _ => ?_) | with_reducible refine Gd.not ?_ | refine Gd.t ?_ | refine Gd.f ?_ | with_reducible refine Gd.var (fun _ => ?_) (fun _ => ?_)) <;> first | (exfalso; omega) | skip) | with_reducible refine Sq.mk ?_ | ((with_reducible show Ld1 _ _ _); first | refine Ld1.h H ?_ | refine Ld1.rF ?_ | refine Ld1.r ?_) | ((with_reducible show Ld _ _ _ _); first | refine Ld.h H ?_ | refine Ld.r ?_) | ((with_reducible show Ix _ _ _ _ _); (first | refine Ix.h ?_ | refine Ix.ha ?_)) | (refine Al.hp H ?_; clear H; intro _ _ H _) | (refine St.h H ?_; clear H; intro _ H))
      exact ⟨i + 1, ⟨at_int (m := ((i + 1 : Nat) : Int)) rfl (w64 (by simp) (by omega) (by omega)), rfl, rfl, rfl, rfl, rfl, trivial⟩, rfl, ⟨by omega, hgo hv, H.d0⟩, by omega⟩
  · have hi : i = f.code.length := by omega
    subst hi
    rw [fs1_end (Nat.le_refl _)] at hfs
    repeat' ((conv => whnf); first | (((with_reducible show Gd _ _ _); first | with_reducible refine Gd.t ?_ | with_reducible refine Gd.f ?_ | with_reducible refine Gd.dec (fun _ => ?_) (fun _ => ?_) | with_reducible refine Gd.beq (fun _ => ?_) (fun _ => ?_) | with_reducible refine Gd.bne (fun _ => ?_) (fun _ => ?_) | with_reducible refine Gd.not ?_ | refine Gd.t ?_ | refine Gd.f ?_ | with_reducible refine Gd.var (fun _ => ?_) (fun _ => ?_)) <;> first | (exfalso; omega) | skip) | with_reducible refine Sq.mk ?_ | ((with_reducible show Ld1 _ _ _); first | refine Ld1.h H ?_ | refine Ld1.rF ?_ | refine Ld1.r ?_) | ((with_reducible show Ld _ _ _ _); first | refine Ld.h H ?_ | refine Ld.r ?_) | ((with_reducible show Ix _ _ _ _ _); (first | refine Ix.h ?_ | refine Ix.ha ?_)) | (refine Al.hp H ?_; clear H; intro _ _ H _) | (refine St.h H ?_; clear H; intro _ H))
    exact ⟨by rw [slot1, hfs]; rfl, H.e⟩
end Go.Proofs.YtbbadmlekagloaaDoor
namespace Go.Proofs.YtbbadmlekagloaaDoor
open Go Go.Sh
set_option linter.unusedVariables false
set_option linter.unusedSimpArgs false
attribute [local irreducible] Blk Ext RdS
def wrongV (e : Int) (i k : Nat) : Value := .iface 92 (fv3 e i k)
theorem run_assert (x : Value) (w : World) : (Instr.typeAssert (.iface 92 x) 20 92 true).run Tryd.prog w = .ok (.tuple #[x, .bool true]) w := by kernel_rfl
theorem check1_ret (pr : Nat) (w : World) : DCl Tryd.prog 64 #[.pointer (some ⟨pr, 0, none⟩)] .returning w (fun u w' => u = .returning ∧ Ext w w') := by
  refine DCl.recov (args := [.pointer (some ⟨pr, 0, none⟩)]) T.ok Tryd.func64 rfl rfl rfl rfl (fun ρ w => rfl) rfl rfl rfl (.inl ⟨rfl, rfl, rfl⟩) ?_
  have H := Hp.begin nw w
  repeat' ((conv => whnf); first | (((with_reducible show Gd _ _ _); first | with_reducible refine Gd.t ?_ | with_reducible refine Gd.f ?_ | with_reducible refine Gd.dec (fun _ => ?_) (fun _ => ?_) | with_reducible refine Gd.beq (fun _ => ?_) (fun _ => ?_) | with_reducible refine Gd.bne (fun _ => ?_) (fun _ => ?_) | with_reducible refine Gd.not ?_ | refine Gd.t ?_ | refine Gd.f ?_ | with_reducible refine Gd.var (fun _ => ?_) (fun _ => ?_)) <;> first | (exfalso; omega) | skip) | with_reducible refine Sq.mk ?_ | ((with_reducible show Ld1 _ _ _); first | refine Ld1.h H ?_ | refine Ld1.rF ?_ | refine Ld1.r ?_) | ((with_reducible show Ld _ _ _ _); first | refine Ld.h H ?_ | refine Ld.r ?_) | ((with_reducible show Ix _ _ _ _ _); (first | refine Ix.h ?_ | refine Ix.ha ?_)) | (refine Al.hp H ?_; clear H; intro _ _ H _) | (refine St.h H ?_; clear H; intro _ H))
  exact ⟨rfl, rfl, H.e⟩
theorem check1_pan (e : Int) (i k pr : Nat) (cs : List Value) (w : World) (hb : Blk w pr 48 cs) (hl : cs.length = 3) :
    DCl Tryd.prog 64 #[.pointer (some ⟨pr, 0, none⟩)] (.panicking [{ v := wrongV e i k, recovered := false }]) w
      (fun u w' => u = .panicking [{ v := wrongV e i k, recovered := true }] ∧ Hp (· = pr) w w' [bk pr 48 (fv3 e i k).cells.toList]) := by
  obtain ⟨c0, c1, c2, rfl⟩ : ∃ a b c, cs = [a, b, c] := by
    match cs, hl with
    | [a, b, c], _ => exact ⟨a, b, c, rfl⟩
  refine DCl.recov (args := [.pointer (some ⟨pr, 0, none⟩)]) T.ok Tryd.func64 rfl rfl rfl rfl (fun ρ w => rfl) rfl rfl rfl (.inr ⟨_, rfl, rfl, rfl⟩) ?_
  have H := Hp.start (S := (· = pr)) (bk_ok hb) (fun k hk => hk)
  repeat' ((conv => whnf); first | (((with_reducible show Gd _ _ _); first | with_reducible refine Gd.t ?_ | with_reducible refine Gd.f ?_ | with_reducible refine Gd.dec (fun _ => ?_) (fun _ => ?_) | with_reducible refine Gd.beq (fun _ => ?_) (fun _ => ?_) | with_reducible refine Gd.bne (fun _ => ?_) (fun _ => ?_) | with_reducible refine Gd.not ?_ | refine Gd.t ?_ | refine Gd.f ?_ | with_reducible refine Gd.var (fun _ => ?_) (fun _ => ?_)) <;> first | (exfalso; omega) | skip) | with_reducible refine Sq.mk ?_ | ((with_reducible show Ld1 _ _ _); first | refine Ld1.h H ?_ | refine Ld1.rF ?_ | refine Ld1.r ?_) | ((with_reducible show Ld _ _ _ _); first | refine Ld.h H ?_ | refine Ld.r ?_) | ((with_reducible show Ix _ _ _ _ _); (first | refine Ix.h ?_ | refine Ix.ha ?_)) | (refine Al.hp H ?_; clear H; intro _ _ H _) | (refine St.h H ?_; clear H; intro _ H))
  refine Sm.ran (run_assert _ _) ?_
  repeat' ((conv => whnf); first | (((with_reducible show Gd _ _ _); first | with_reducible refine Gd.t ?_ | with_reducible refine Gd.f ?_ | with_reducible refine Gd.dec (fun _ => ?_) (fun _ => ?_) | with_reducible refine Gd.beq (fun _ => ?_) (fun _ => ?_) | with_reducible refine Gd.bne (fun _ => ?_) (fun _ => ?_) | with_reducible refine Gd.not ?_ | refine Gd.t ?_ | refine Gd.f ?_ | with_reducible refine Gd.var (fun _ => ?_) (fun _ => ?_)) <;> first | (exfalso; omega) | skip) | with_reducible refine Sq.mk ?_ | ((with_reducible show Ld1 _ _ _); first | refine Ld1.h H ?_ | refine Ld1.rF ?_ | refine Ld1.r ?_) | ((with_reducible show Ld _ _ _ _); first | refine Ld.h H ?_ | refine Ld.r ?_) | ((with_reducible show Ix _ _ _ _ _); (first | refine Ix.h ?_ | refine Ix.ha ?_)) | (refine Al.hp H ?_; clear H; intro _ _ H _) | (refine St.h H ?_; clear H; intro _ H))
  exact ⟨rfl, rfl, H.d0⟩
theorem shaped_all {l : List FE} (h : fs1 (fun _ f => if shapedB f then none else some ()) (fns l) 0 = none) : ∀ y ∈ l, shapedB y.1 = true := by
  have key : ∀ (m : List Fn) (j : Nat), fs1 (fun _ f => if shapedB f then none else some ()) m j = none → ∀ f ∈ m, shapedB f = true := by
    intro m
    induction m with
    | nil => simp
    | cons x r ih =>
      intro j h f hf
      by_cases hx : shapedB x = true
      · simp only [fs1, hx, if_true] at h
        rcases List.mem_cons.1 hf with rfl | hf
        · exact hx
        · exact ih _ h f hf
      · simp [fs1, hx] at h
  exact fun y hy => key _ 0 h _ (List.mem_map.2 ⟨y, hy, rfl⟩)
theorem ins_sound {fs : List Fn} {f : Fn} (hs : shapedB f = true) (h : ins1 fs f = none) : soundB f = true := by
  have key : ∀ (m : List Ins) (j : Nat), fs1 (insG fs f) m j = none → ∀ c ∈ m, aloneB f c = true := by
    intro m
    induction m with
    | nil => simp
    | cons x r ih =>
      intro j h c hc
      by_cases hx : (aloneB f x && calledB fs f x) = true
      · simp only [fs1, insG, hx, if_true] at h
        rcases List.mem_cons.1 hc with rfl | hc
        · exact (Bool.and_eq_true _ _ ▸ hx).1
        · exact ih _ h c hc
      · simp [fs1, insG, hx] at h
  unfold ins1 at h
  split at h
  · simp at h
  · rename_i h1
    split at h
    · rename_i h2
      simp only [soundB, hs, h2, Bool.and_true, Bool.true_and, List.all_eq_true]
      exact key _ 0 h1
    · simp at h
theorem all_sound {l : List FE} (hs : ∀ y ∈ l, shapedB y.1 = true) (h : fs1 (fun _ f => ins1 (fns l) f) (fns l) 0 = none) : ∀ y ∈ l, soundB y.1 = true := by
  have key : ∀ (m : List Fn) (j : Nat), fs1 (fun _ f => ins1 (fns l) f) m j = none → ∀ f ∈ m, ins1 (fns l) f = none := by
    intro m
    induction m with
    | nil => simp
    | cons x r ih =>
      intro j h f hf
      cases hx : ins1 (fns l) x with
      | none =>
        simp only [fs1, hx] at h
        rcases List.mem_cons.1 hf with rfl | hf
        · exact hx
        · exact ih _ h f hf
      | some b => simp [fs1, hx] at h
  exact fun y hy => ins_sound (hs y hy) (key _ 0 h _ (List.mem_map.2 ⟨y, hy, rfl⟩))
theorem fns_at {l : List FE} {i : Nat} {x : FE} (h : l[i]? = some x) : (fns l)[i]? = some x.1 := by simp [fns, h]
theorem Check_c (B : Option Addr) (l : List FE) (d : Nat) (w : World) (hG : RdG w) (hB : RdP w B l) :
    Cl Tryd.prog 30 #[pv B l.length d] w (fun v w' => v = fvV (checkL (fns l)) ∧ Ext w w') (fun _ _ => False) := by
  refine calls_exd (args := [pv B l.length d]) T.ok Tryd.func30 rfl rfl rfl rfl ?_
  have H := Hp.begin nw w
  have hfl := fns_len l
  refine Sq.mk ?_
  ((conv => whnf); refine Al.hp H ?_; clear H; intro pp _ H _)
  ((conv => whnf); refine Al.hp H ?_; clear H; intro pr _ H _)
  repeat' ((conv => whnf); first | (((with_reducible show Gd _ _ _); first | with_reducible refine Gd.t ?_ | with_reducible refine Gd.f ?_ | with_reducible refine Gd.dec (fun _ => ?_) (fun _ => ?_) | with_reducible refine Gd.beq (fun _ => ?_) (fun _ => ?_) | with_reducible refine Gd.bne (fun _ => ?_) (fun _ => ?_) | with_reducible refine Gd.not ?_ | refine Gd.t ?_ | refine Gd.f ?_ | with_reducible refine Gd.var (fun _ => ?_) (fun _ => ?_)) <;> first | (exfalso; omega) | skip) | with_reducible refine Sq.mk ?_ | ((with_reducible show Ld1 _ _ _); first | refine Ld1.h H ?_ | refine Ld1.rF ?_ | refine Ld1.r ?_) | ((with_reducible show Ld _ _ _ _); first | refine Ld.h H ?_ | refine Ld.r ?_) | ((with_reducible show Ix _ _ _ _ _); (first | refine Ix.h ?_ | refine Ix.ha ?_)) | (refine Al.hp H ?_; clear H; intro _ _ H _) | (refine St.h H ?_; clear H; intro _ H))
  · ((conv => whnf); refine DCl.mono (check1_ret pr _) ?_; rintro _ _ ⟨rfl, hx⟩; replace H := H.ext hx; clear hx; refine ⟨rfl, ?_⟩; repeat' ((conv => whnf); first | (((with_reducible show Gd _ _ _); first | with_reducible refine Gd.t ?_ | with_reducible refine Gd.f ?_ | with_reducible refine Gd.dec (fun _ => ?_) (fun _ => ?_) | with_reducible refine Gd.beq (fun _ => ?_) (fun _ => ?_) | with_reducible refine Gd.bne (fun _ => ?_) (fun _ => ?_) | with_reducible refine Gd.not ?_ | refine Gd.t ?_ | refine Gd.f ?_ | with_reducible refine Gd.var (fun _ => ?_) (fun _ => ?_)) <;> first | (exfalso; omega) | skip) | with_reducible refine Sq.mk ?_ | ((with_reducible show Ld1 _ _ _); first | refine Ld1.h H ?_ | refine Ld1.rF ?_ | refine Ld1.r ?_) | ((with_reducible show Ld _ _ _ _); first | refine Ld.h H ?_ | refine Ld.r ?_) | ((with_reducible show Ix _ _ _ _ _); (first | refine Ix.h ?_ | refine Ix.ha ?_)) | (refine Al.hp H ?_; clear H; intro _ _ H _) | (refine St.h H ?_; clear H; intro _ H)))
    refine ⟨?_, H.e⟩
    rw [checkL, if_pos (.inl (by omega))]; rfl
  · ((conv => whnf); refine DCl.mono (check1_ret pr _) ?_; rintro _ _ ⟨rfl, hx⟩; replace H := H.ext hx; clear hx; refine ⟨rfl, ?_⟩; repeat' ((conv => whnf); first | (((with_reducible show Gd _ _ _); first | with_reducible refine Gd.t ?_ | with_reducible refine Gd.f ?_ | with_reducible refine Gd.dec (fun _ => ?_) (fun _ => ?_) | with_reducible refine Gd.beq (fun _ => ?_) (fun _ => ?_) | with_reducible refine Gd.bne (fun _ => ?_) (fun _ => ?_) | with_reducible refine Gd.not ?_ | refine Gd.t ?_ | refine Gd.f ?_ | with_reducible refine Gd.var (fun _ => ?_) (fun _ => ?_)) <;> first | (exfalso; omega) | skip) | with_reducible refine Sq.mk ?_ | ((with_reducible show Ld1 _ _ _); first | refine Ld1.h H ?_ | refine Ld1.rF ?_ | refine Ld1.r ?_) | ((with_reducible show Ld _ _ _ _); first | refine Ld.h H ?_ | refine Ld.r ?_) | ((with_reducible show Ix _ _ _ _ _); (first | refine Ix.h ?_ | refine Ix.ha ?_)) | (refine Al.hp H ?_; clear H; intro _ _ H _) | (refine St.h H ?_; clear H; intro _ H)))
    refine ⟨?_, H.e⟩
    rw [checkL, if_pos (.inr (by omega))]; rfl
  -- the shapes
  have hlo : ¬ ((fns l).length < 1 ∨ 32 < (fns l).length) := by omega
  refine Lp.go T.ok (σ := Nat) (fun i => [(24, .int .i64 (i : Int)), (23, .int .i64 (l.length : Int)), (22, .slice B l.length d), (1, .pointer (some ⟨pp, 0, none⟩)), (2, .pointer (some ⟨pr, 0, none⟩))])
    (fun i w' => i ≤ l.length ∧ fs1 (fun _ f => if shapedB f then none else some ()) (fns l) 0 = fs1 (fun _ f => if shapedB f then none else some ()) ((fns l).drop i) i ∧ Hp nw w w' [bk pr 48 (T.t48.zero.cells.toList), bk pp 46 (pv B l.length d).cells.toList]) (fun i _ => l.length - i) 0 ⟨rfl, rfl, rfl, rfl, rfl, trivial⟩ ⟨Nat.zero_le _, rfl, H⟩ ?_
  clear H
  rintro i w5 ⟨hi, hfs, H⟩
  by_cases hlt : i < l.length
  · obtain ⟨x, hx⟩ : ∃ x, l[i]? = some x := ⟨_, List.getElem?_eq_getElem hlt⟩
    have hfx := fns_at hx
    have hB5 := RdS.from H.e hB.top
    repeat' (first | ((conv => whnf); first | (((with_reducible show Gd _ _ _); first | with_reducible refine Gd.t ?_ | with_reducible refine Gd.f ?_ | with_reducible refine Gd.dec (fun _ => ?_) (fun _ => ?_) | with_reducible refine Gd.beq (fun _ => ?_) (fun _ => ?_) | with_reducible refine Gd.bne (fun _ => ?_) (fun _ => ?_) | with_reducible refine Gd.not ?_ | refine Gd.t ?_ | refine Gd.f ?_ | with_reducible refine Gd.var (fun _ => ?_) (fun _ => ?_)) <;> first | (exfalso; omega) | skip) | with_reducible refine Sq.mk ?_ | ((with_reducible show Ld1 _ _ _); first | refine Ld1.h H ?_ | refine Ld1.rF ?_ | refine Ld1.r ?_) | ((with_reducible show Ld _ _ _ _); first | refine Ld.h H ?_ | refine Ld.r ?_) | ((with_reducible show Ix _ _ _ _ _); (first | refine Ix.h ?_ | refine Ix.ha ?_)) | (refine Al.hp H ?_; clear H; intro _ _ H _) | (refine St.h H ?_; clear H; intro _ H)) | (((conv => whnf); refine Cl.mk (shapeOK_c x.1 x.2.1 x.2.2 _) ?_); rintro _ _ ⟨rfl, hx⟩; replace H := H.ext hx; clear hx))
    · have hb : shapedB x.1 = true := by assumption
      rw [fs1_no hfx (by simp only [hb]; rfl)] at hfs
      exact ⟨i + 1, ⟨at_int (m := ((i + 1 : Nat) : Int)) rfl (w64 (by simp) (by omega) (by omega)), rfl, rfl, rfl, rfl, trivial⟩, rfl, ⟨by omega, hfs, H.d0⟩, by omega⟩
    · have hb : shapedB x.1 = false := by assumption
      rw [fs1_yes hfx (b := ()) (by simp only [hb]; rfl)] at hfs
      ((conv => whnf); refine DCl.mono (check1_ret pr _) ?_; rintro _ _ ⟨rfl, hx⟩; replace H := H.ext hx; clear hx; refine ⟨rfl, ?_⟩; repeat' ((conv => whnf); first | (((with_reducible show Gd _ _ _); first | with_reducible refine Gd.t ?_ | with_reducible refine Gd.f ?_ | with_reducible refine Gd.dec (fun _ => ?_) (fun _ => ?_) | with_reducible refine Gd.beq (fun _ => ?_) (fun _ => ?_) | with_reducible refine Gd.bne (fun _ => ?_) (fun _ => ?_) | with_reducible refine Gd.not ?_ | refine Gd.t ?_ | refine Gd.f ?_ | with_reducible refine Gd.var (fun _ => ?_) (fun _ => ?_)) <;> first | (exfalso; omega) | skip) | with_reducible refine Sq.mk ?_ | ((with_reducible show Ld1 _ _ _); first | refine Ld1.h H ?_ | refine Ld1.rF ?_ | refine Ld1.r ?_) | ((with_reducible show Ld _ _ _ _); first | refine Ld.h H ?_ | refine Ld.r ?_) | ((with_reducible show Ix _ _ _ _ _); (first | refine Ix.h ?_ | refine Ix.ha ?_)) | (refine Al.hp H ?_; clear H; intro _ _ H _) | (refine St.h H ?_; clear H; intro _ H)))
      refine ⟨?_, H.e⟩
      rw [checkL, if_neg hlo]; simp only [hfs] <;> rfl
  have hi : i = l.length := by omega
  subst hi
  rw [fs1_end (by omega)] at hfs
  have hsh := shaped_all hfs
  have hC1 : checkL (fns l) = match fs1 (fun _ f => ins1 (fns l) f) (fns l) 0 with
      | some (i, e, k) => (e, i, k)
      | none => match fs1 (fun _ f => slot1 f) (fns l) 0 with
        | some (i, e, k) => (e, i, k)
        | none => (0, 0, 0) := by rw [checkL, if_neg hlo]; simp only [hfs] <;> rfl
  have hne : l ≠ [] := fun h => by subst h; exact hlo (.inl (by simp [fns]))
  have hpar : ∀ y ∈ l, 0 ≤ y.1.params ∧ y.1.params ≤ 8 := fun y hy => by
    have h := hsh y hy
    simp only [shapedB, decide_eq_true_eq] at h
    omega
  clear hlo hfs hlt hi
  repeat' ((conv => whnf); first | (((with_reducible show Gd _ _ _); first | with_reducible refine Gd.t ?_ | with_reducible refine Gd.f ?_ | with_reducible refine Gd.dec (fun _ => ?_) (fun _ => ?_) | with_reducible refine Gd.beq (fun _ => ?_) (fun _ => ?_) | with_reducible refine Gd.bne (fun _ => ?_) (fun _ => ?_) | with_reducible refine Gd.not ?_ | refine Gd.t ?_ | refine Gd.f ?_ | with_reducible refine Gd.var (fun _ => ?_) (fun _ => ?_)) <;> first | (exfalso; omega) | skip) | with_reducible refine Sq.mk ?_ | ((with_reducible show Ld1 _ _ _); first | refine Ld1.h H ?_ | refine Ld1.rF ?_ | refine Ld1.r ?_) | ((with_reducible show Ld _ _ _ _); first | refine Ld.h H ?_ | refine Ld.r ?_) | ((with_reducible show Ix _ _ _ _ _); (first | refine Ix.h ?_ | refine Ix.ha ?_)) | (refine Al.hp H ?_; clear H; intro _ _ H _) | (refine St.h H ?_; clear H; intro _ H))
  -- the instructions
  refine Lp.go T.ok (σ := Nat) (fun i => [(38, .int .i64 (i : Int)), (37, .int .i64 (l.length : Int)), (36, .slice B l.length d), (1, .pointer (some ⟨pp, 0, none⟩)), (2, .pointer (some ⟨pr, 0, none⟩))])
    (fun i w' => i ≤ l.length ∧ fs1 (fun _ f => ins1 (fns l) f) (fns l) 0 = fs1 (fun _ f => ins1 (fns l) f) ((fns l).drop i) i ∧ Hp nw w w' [bk pr 48 (T.t48.zero.cells.toList), bk pp 46 (pv B l.length d).cells.toList]) (fun i _ => l.length - i) 0 ⟨rfl, rfl, rfl, rfl, rfl, trivial⟩ ⟨Nat.zero_le _, rfl, H⟩ ?_
  clear H
  rintro i w6 ⟨hi, hfs, H⟩
  by_cases hlt : i < l.length
  rotate_left
  have hi : i = l.length := by omega
  subst hi
  rw [fs1_end (by omega)] at hfs
  have hsd := all_sound hsh hfs
  have hC2 : checkL (fns l) = match fs1 (fun _ f => slot1 f) (fns l) 0 with
        | some (i, e, k) => (e, i, k)
        | none => (0, 0, 0) := by rw [hC1]; simp only [hfs]
  clear hC1 hfs hlt hi
  repeat' ((conv => whnf); first | (((with_reducible show Gd _ _ _); first | with_reducible refine Gd.t ?_ | with_reducible refine Gd.f ?_ | with_reducible refine Gd.dec (fun _ => ?_) (fun _ => ?_) | with_reducible refine Gd.beq (fun _ => ?_) (fun _ => ?_) | with_reducible refine Gd.bne (fun _ => ?_) (fun _ => ?_) | with_reducible refine Gd.not ?_ | refine Gd.t ?_ | refine Gd.f ?_ | with_reducible refine Gd.var (fun _ => ?_) (fun _ => ?_)) <;> first | (exfalso; omega) | skip) | with_reducible refine Sq.mk ?_ | ((with_reducible show Ld1 _ _ _); first | refine Ld1.h H ?_ | refine Ld1.rF ?_ | refine Ld1.r ?_) | ((with_reducible show Ld _ _ _ _); first | refine Ld.h H ?_ | refine Ld.r ?_) | ((with_reducible show Ix _ _ _ _ _); (first | refine Ix.h ?_ | refine Ix.ha ?_)) | (refine Al.hp H ?_; clear H; intro _ _ H _) | (refine St.h H ?_; clear H; intro _ H))
  -- the slots
  refine Lp.go T.ok (σ := Nat) (fun i => [(52, .int .i64 (i : Int)), (51, .int .i64 (l.length : Int)), (50, .slice B l.length d), (1, .pointer (some ⟨pp, 0, none⟩)), (2, .pointer (some ⟨pr, 0, none⟩))])
    (fun i w' => i ≤ l.length ∧ fs1 (fun _ f => slot1 f) (fns l) 0 = fs1 (fun _ f => slot1 f) ((fns l).drop i) i ∧ Hp nw w w' [bk pr 48 (T.t48.zero.cells.toList), bk pp 46 (pv B l.length d).cells.toList]) (fun i _ => l.length - i) 0 ⟨rfl, rfl, rfl, rfl, rfl, trivial⟩ ⟨Nat.zero_le _, rfl, H⟩ ?_
  clear H
  rintro i w7 ⟨hi, hfs, H⟩
  by_cases hlt : i < l.length
  rotate_left
  have hi : i = l.length := by omega
  subst hi
  rw [fs1_end (by omega)] at hfs
  have hC3 : checkL (fns l) = (0, 0, 0) := by rw [hC2]; simp only [hfs]
  repeat' ((conv => whnf); first | (((with_reducible show Gd _ _ _); first | with_reducible refine Gd.t ?_ | with_reducible refine Gd.f ?_ | with_reducible refine Gd.dec (fun _ => ?_) (fun _ => ?_) | with_reducible refine Gd.beq (fun _ => ?_) (fun _ => ?_) | with_reducible refine Gd.bne (fun _ => ?_) (fun _ => ?_) | with_reducible refine Gd.not ?_ | refine Gd.t ?_ | refine Gd.f ?_ | with_reducible refine Gd.var (fun _ => ?_) (fun _ => ?_)) <;> first | (exfalso; omega) | skip) | with_reducible refine Sq.mk ?_ | ((with_reducible show Ld1 _ _ _); first | refine Ld1.h H ?_ | refine Ld1.rF ?_ | refine Ld1.r ?_) | ((with_reducible show Ld _ _ _ _); first | refine Ld.h H ?_ | refine Ld.r ?_) | ((with_reducible show Ix _ _ _ _ _); (first | refine Ix.h ?_ | refine Ix.ha ?_)) | (refine Al.hp H ?_; clear H; intro _ _ H _) | (refine St.h H ?_; clear H; intro _ H))
  ((conv => whnf); refine DCl.mono (check1_ret pr _) ?_; rintro _ _ ⟨rfl, hx⟩; replace H := H.ext hx; clear hx; refine ⟨rfl, ?_⟩; repeat' ((conv => whnf); first | (((with_reducible show Gd _ _ _); first | with_reducible refine Gd.t ?_ | with_reducible refine Gd.f ?_ | with_reducible refine Gd.dec (fun _ => ?_) (fun _ => ?_) | with_reducible refine Gd.beq (fun _ => ?_) (fun _ => ?_) | with_reducible refine Gd.bne (fun _ => ?_) (fun _ => ?_) | with_reducible refine Gd.not ?_ | refine Gd.t ?_ | refine Gd.f ?_ | with_reducible refine Gd.var (fun _ => ?_) (fun _ => ?_)) <;> first | (exfalso; omega) | skip) | with_reducible refine Sq.mk ?_ | ((with_reducible show Ld1 _ _ _); first | refine Ld1.h H ?_ | refine Ld1.rF ?_ | refine Ld1.r ?_) | ((with_reducible show Ld _ _ _ _); first | refine Ld.h H ?_ | refine Ld.r ?_) | ((with_reducible show Ix _ _ _ _ _); (first | refine Ix.h ?_ | refine Ix.ha ?_)) | (refine Al.hp H ?_; clear H; intro _ _ H _) | (refine St.h H ?_; clear H; intro _ H)))
  exact ⟨by rw [hC3]; rfl, H.e⟩
  · obtain ⟨x, hx⟩ : ∃ x, l[i]? = some x := ⟨_, List.getElem?_eq_getElem hlt⟩
    have hxm := List.mem_of_getElem? hx
    have hfx := fns_at hx
    have hB5 := RdS.from H.e hB.top
    repeat' ((conv => whnf); first | (((with_reducible show Gd _ _ _); first | with_reducible refine Gd.t ?_ | with_reducible refine Gd.f ?_ | with_reducible refine Gd.dec (fun _ => ?_) (fun _ => ?_) | with_reducible refine Gd.beq (fun _ => ?_) (fun _ => ?_) | with_reducible refine Gd.bne (fun _ => ?_) (fun _ => ?_) | with_reducible refine Gd.not ?_ | refine Gd.t ?_ | refine Gd.f ?_ | with_reducible refine Gd.var (fun _ => ?_) (fun _ => ?_)) <;> first | (exfalso; omega) | skip) | with_reducible refine Sq.mk ?_ | ((with_reducible show Ld1 _ _ _); first | refine Ld1.h H ?_ | refine Ld1.rF ?_ | refine Ld1.r ?_) | ((with_reducible show Ld _ _ _ _); first | refine Ld.h H ?_ | refine Ld.r ?_) | ((with_reducible show Ix _ _ _ _ _); (first | refine Ix.h ?_ | refine Ix.ha ?_)) | (refine Al.hp H ?_; clear H; intro _ _ H _) | (refine St.h H ?_; clear H; intro _ H))
    (conv => whnf)
    refine Cl.mkX (instructions_c i x.1 x.2.1 x.2.2 B l d _ (RdS.from H.e hG) (RdS.from H.e (hB.code x hxm)) (RdS.from H.e hB.top) hne (by omega) (hsh x hxm) hpar) ?_ ?_
    · rintro _ w' ⟨hb, hx1⟩
      replace H := H.ext hx1
      rw [fs1_no hfx hb] at hfs
      repeat' ((conv => whnf); first | (((with_reducible show Gd _ _ _); first | with_reducible refine Gd.t ?_ | with_reducible refine Gd.f ?_ | with_reducible refine Gd.dec (fun _ => ?_) (fun _ => ?_) | with_reducible refine Gd.beq (fun _ => ?_) (fun _ => ?_) | with_reducible refine Gd.bne (fun _ => ?_) (fun _ => ?_) | with_reducible refine Gd.not ?_ | refine Gd.t ?_ | refine Gd.f ?_ | with_reducible refine Gd.var (fun _ => ?_) (fun _ => ?_)) <;> first | (exfalso; omega) | skip) | with_reducible refine Sq.mk ?_ | ((with_reducible show Ld1 _ _ _); first | refine Ld1.h H ?_ | refine Ld1.rF ?_ | refine Ld1.r ?_) | ((with_reducible show Ld _ _ _ _); first | refine Ld.h H ?_ | refine Ld.r ?_) | ((with_reducible show Ix _ _ _ _ _); (first | refine Ix.h ?_ | refine Ix.ha ?_)) | (refine Al.hp H ?_; clear H; intro _ _ H _) | (refine St.h H ?_; clear H; intro _ H))
      exact ⟨i + 1, ⟨at_int (m := ((i + 1 : Nat) : Int)) rfl (w64 (by simp) (by omega) (by omega)), rfl, rfl, rfl, rfl, trivial⟩, rfl, ⟨by omega, hfs, H.d0⟩, by omega⟩
    · rintro _ w' ⟨e, k, hb, rfl, hx1⟩
      replace H := H.ext hx1
      rw [fs1_yes hfx hb] at hfs
      (conv => whnf)
      refine DCl.mono (check1_pan e i k pr _ _ (H.blk 1 rfl) rfl) ?_
      rintro _ w'' ⟨rfl, H'⟩
      replace H := H.updb H'
      repeat' ((conv => whnf); first | (((with_reducible show Gd _ _ _); first | with_reducible refine Gd.t ?_ | with_reducible refine Gd.f ?_ | with_reducible refine Gd.dec (fun _ => ?_) (fun _ => ?_) | with_reducible refine Gd.beq (fun _ => ?_) (fun _ => ?_) | with_reducible refine Gd.bne (fun _ => ?_) (fun _ => ?_) | with_reducible refine Gd.not ?_ | refine Gd.t ?_ | refine Gd.f ?_ | with_reducible refine Gd.var (fun _ => ?_) (fun _ => ?_)) <;> first | (exfalso; omega) | skip) | with_reducible refine Sq.mk ?_ | ((with_reducible show Ld1 _ _ _); first | refine Ld1.h H ?_ | refine Ld1.rF ?_ | refine Ld1.r ?_) | ((with_reducible show Ld _ _ _ _); first | refine Ld.h H ?_ | refine Ld.r ?_) | ((with_reducible show Ix _ _ _ _ _); (first | refine Ix.h ?_ | refine Ix.ha ?_)) | (refine Al.hp H ?_; clear H; intro _ _ H _) | (refine St.h H ?_; clear H; intro _ H))
      exact ⟨by rw [hC1]; simp only [hfs] <;> rfl, H.e⟩
  · obtain ⟨x, hx⟩ : ∃ x, l[i]? = some x := ⟨_, List.getElem?_eq_getElem hlt⟩
    have hxm := List.mem_of_getElem? hx
    have hfx := fns_at hx
    have hB5 := RdS.from H.e hB.top
    repeat' ((conv => whnf); first | (((with_reducible show Gd _ _ _); first | with_reducible refine Gd.t ?_ | with_reducible refine Gd.f ?_ | with_reducible refine Gd.dec (fun _ => ?_) (fun _ => ?_) | with_reducible refine Gd.beq (fun _ => ?_) (fun _ => ?_) | with_reducible refine Gd.bne (fun _ => ?_) (fun _ => ?_) | with_reducible refine Gd.not ?_ | refine Gd.t ?_ | refine Gd.f ?_ | with_reducible refine Gd.var (fun _ => ?_) (fun _ => ?_)) <;> first | (exfalso; omega) | skip) | with_reducible refine Sq.mk ?_ | ((with_reducible show Ld1 _ _ _); first | refine Ld1.h H ?_ | refine Ld1.rF ?_ | refine Ld1.r ?_) | ((with_reducible show Ld _ _ _ _); first | refine Ld.h H ?_ | refine Ld.r ?_) | ((with_reducible show Ix _ _ _ _ _); (first | refine Ix.h ?_ | refine Ix.ha ?_)) | (refine Al.hp H ?_; clear H; intro _ _ H _) | (refine St.h H ?_; clear H; intro _ H))
    (conv => whnf)
    refine Cl.mkX (slots_c i x.1 x.2.1 x.2.2 _ (RdS.from H.e hG) (RdS.from H.e (hB.code x hxm)) (hsd x hxm)) ?_ ?_
    · rintro _ w' ⟨hb, hx1⟩
      replace H := H.ext hx1
      rw [fs1_no hfx hb] at hfs
      repeat' ((conv => whnf); first | (((with_reducible show Gd _ _ _); first | with_reducible refine Gd.t ?_ | with_reducible refine Gd.f ?_ | with_reducible refine Gd.dec (fun _ => ?_) (fun _ => ?_) | with_reducible refine Gd.beq (fun _ => ?_) (fun _ => ?_) | with_reducible refine Gd.bne (fun _ => ?_) (fun _ => ?_) | with_reducible refine Gd.not ?_ | refine Gd.t ?_ | refine Gd.f ?_ | with_reducible refine Gd.var (fun _ => ?_) (fun _ => ?_)) <;> first | (exfalso; omega) | skip) | with_reducible refine Sq.mk ?_ | ((with_reducible show Ld1 _ _ _); first | refine Ld1.h H ?_ | refine Ld1.rF ?_ | refine Ld1.r ?_) | ((with_reducible show Ld _ _ _ _); first | refine Ld.h H ?_ | refine Ld.r ?_) | ((with_reducible show Ix _ _ _ _ _); (first | refine Ix.h ?_ | refine Ix.ha ?_)) | (refine Al.hp H ?_; clear H; intro _ _ H _) | (refine St.h H ?_; clear H; intro _ H))
      exact ⟨i + 1, ⟨at_int (m := ((i + 1 : Nat) : Int)) rfl (w64 (by simp) (by omega) (by omega)), rfl, rfl, rfl, rfl, trivial⟩, rfl, ⟨by omega, hfs, H.d0⟩, by omega⟩
    · rintro _ w' ⟨e, k, hb, rfl, hx1⟩
      replace H := H.ext hx1
      rw [fs1_yes hfx hb] at hfs
      (conv => whnf)
      refine DCl.mono (check1_pan e i k pr _ _ (H.blk 1 rfl) rfl) ?_
      rintro _ w'' ⟨rfl, H'⟩
      replace H := H.updb H'
      repeat' ((conv => whnf); first | (((with_reducible show Gd _ _ _); first | with_reducible refine Gd.t ?_ | with_reducible refine Gd.f ?_ | with_reducible refine Gd.dec (fun _ => ?_) (fun _ => ?_) | with_reducible refine Gd.beq (fun _ => ?_) (fun _ => ?_) | with_reducible refine Gd.bne (fun _ => ?_) (fun _ => ?_) | with_reducible refine Gd.not ?_ | refine Gd.t ?_ | refine Gd.f ?_ | with_reducible refine Gd.var (fun _ => ?_) (fun _ => ?_)) <;> first | (exfalso; omega) | skip) | with_reducible refine Sq.mk ?_ | ((with_reducible show Ld1 _ _ _); first | refine Ld1.h H ?_ | refine Ld1.rF ?_ | refine Ld1.r ?_) | ((with_reducible show Ld _ _ _ _); first | refine Ld.h H ?_ | refine Ld.r ?_) | ((with_reducible show Ix _ _ _ _ _); (first | refine Ix.h ?_ | refine Ix.ha ?_)) | (refine Al.hp H ?_; clear H; intro _ _ H _) | (refine St.h H ?_; clear H; intro _ H))
      exact ⟨by rw [hC2]; simp only [hfs] <;> rfl, H.e⟩
end Go.Proofs.YtbbadmlekagloaaDoor
namespace Go.Proofs.YtbbadmlekagloaaDoor
open Go Go.Sh
set_option linter.unusedVariables false
set_option linter.unusedSimpArgs false
attribute [local irreducible] Blk Ext RdS
theorem ins1_go {fs : List Fn} {f : Fn} (h : fs1 (insG fs f) f.code 0 = none) : ins1 fs f = if endsB f then none else some (53, f.code.length - 1) := by
  rw [ins1, h]
set_option maxHeartbeats 1000000 in
theorem rCheck_c (B : Option Addr) (l : List FE) (d : Nat) (w : World) (hB : RdP w B l) :
    Cl Tryd.prog 28 #[pv B l.length d] w (fun v w' => v = fvV (checkL (fns l)) ∧ Ext w w') (fun _ _ => False) := by
  refine calls_ex (args := [pv B l.length d]) T.ok Tryd.func28 rfl rfl rfl rfl ?_
  have H := Hp.begin nw w
  have hfl := fns_len l
  refine Sq.mk ?_
  ((conv => whnf); refine Al.hp H ?_; clear H; intro pp _ H _)
  ((conv => whnf); refine Al.hp H ?_; clear H; intro pr _ H _)
  repeat' ((conv => whnf); first | (((with_reducible show Gd _ _ _); first | with_reducible refine Gd.t ?_ | with_reducible refine Gd.f ?_ | with_reducible refine Gd.dec (fun _ => ?_) (fun _ => ?_) | with_reducible refine Gd.beq (fun _ => ?_) (fun _ => ?_) | with_reducible refine Gd.bne (fun _ => ?_) (fun _ => ?_) | with_reducible refine Gd.not ?_ | refine Gd.t ?_ | refine Gd.f ?_ | with_reducible refine Gd.var (fun _ => ?_) (fun _ => ?_)) <;> first | (exfalso; omega) | skip) | with_reducible refine Sq.mk ?_ | ((with_reducible show Ld1 _ _ _); first | refine Ld1.h H ?_ | refine Ld1.rF ?_ | refine Ld1.r ?_) | ((with_reducible show Ld _ _ _ _); first | refine Ld.h H ?_ | refine Ld.r ?_) | ((with_reducible show Ix _ _ _ _ _); (first | refine Ix.h ?_ | refine Ix.ha ?_)) | (refine Al.hp H ?_; clear H; intro _ _ H _) | (refine St.h H ?_; clear H; intro _ H))
  · refine ⟨?_, H.e⟩
    rw [checkL, if_pos (.inl (by omega))]; rfl
  · refine ⟨?_, H.e⟩
    rw [checkL, if_pos (.inr (by omega))]; rfl
  -- the shapes
  have hlo : ¬ ((fns l).length < 1 ∨ 32 < (fns l).length) := by omega
  refine Lp.g0 T.ok (σ := Nat) (fun i => [(3, .int .i64 (i : Int)), (1, .pointer (some ⟨pp, 0, none⟩)), (2, .pointer (some ⟨pr, 0, none⟩))])
    (fun i w' => i ≤ l.length ∧ fs1 (fun _ f => if shapedB f then none else some ()) (fns l) 0 = fs1 (fun _ f => if shapedB f then none else some ()) ((fns l).drop i) i ∧ Hp nw w w' [bk pr 48 (T.t48.zero.cells.toList), bk pp 46 (pv B l.length d).cells.toList]) (fun i _ => l.length - i) 0 rfl ⟨rfl, rfl, rfl, trivial⟩ ⟨Nat.zero_le _, rfl, H⟩ ?_
  clear H
  rintro i w5 ⟨hi, hfs, H⟩
  by_cases hlt : i < l.length
  · obtain ⟨x, hx⟩ : ∃ x, l[i]? = some x := ⟨_, List.getElem?_eq_getElem hlt⟩
    have hfx := fns_at hx
    have hB5 := RdS.from H.e hB.top
    repeat' (first | ((conv => whnf); first | (((with_reducible show Gd _ _ _); first | with_reducible refine Gd.t ?_ | with_reducible refine Gd.f ?_ | with_reducible refine Gd.dec (fun _ => ?_) (fun _ => ?_) | with_reducible refine Gd.beq (fun _ => ?_) (fun _ => ?_) | with_reducible refine Gd.bne (fun _ => ?_) (fun _ => ?_) | with_reducible refine Gd.not ?_ | refine Gd.t ?_ | refine Gd.f ?_ | with_reducible refine Gd.var (fun _ => ?_) (fun _ => ?_)) <;> first | (exfalso; omega) | skip) | with_reducible refine Sq.mk ?_ | ((with_reducible show Ld1 _ _ _); first | refine Ld1.h H ?_ | refine Ld1.rF ?_ | refine Ld1.r ?_) | ((with_reducible show Ld _ _ _ _); first | refine Ld.h H ?_ | refine Ld.r ?_) | ((with_reducible show Ix _ _ _ _ _); (first | refine Ix.h ?_ | refine Ix.ha ?_)) | (refine Al.hp H ?_; clear H; intro _ _ H _) | (refine St.h H ?_; clear H; intro _ H)) | (((conv => whnf); refine Cl.mk (shaped_c x.1 x.2.1 x.2.2 _) ?_); rintro _ _ ⟨rfl, hx⟩; replace H := H.ext hx; clear hx))
    · have hb : shapedB x.1 = true := by assumption
      rw [fs1_no hfx (by simp only [hb]; rfl)] at hfs
      exact ⟨i + 1, ⟨at_int (m := ((i + 1 : Nat) : Int)) rfl (w64 (by simp) (by omega) (by omega)), rfl, rfl, trivial⟩, rfl, ⟨by omega, hfs, H⟩, by omega⟩
    · have hb : shapedB x.1 = false := by assumption
      rw [fs1_yes hfx (b := ()) (by simp only [hb]; rfl)] at hfs
      refine ⟨?_, H.e⟩
      rw [checkL, if_neg hlo]; simp only [hfs] <;> rfl
  have hi : i = l.length := by omega
  subst hi
  rw [fs1_end (by omega)] at hfs
  have hsh := shaped_all hfs
  have hC1 : checkL (fns l) = match fs1 (fun _ f => ins1 (fns l) f) (fns l) 0 with
      | some (i, e, k) => (e, i, k)
      | none => match fs1 (fun _ f => slot1 f) (fns l) 0 with
        | some (i, e, k) => (e, i, k)
        | none => (0, 0, 0) := by rw [checkL, if_neg hlo]; simp only [hfs] <;> rfl
  clear hlo hfs hlt hi
  repeat' ((conv => whnf); first | (((with_reducible show Gd _ _ _); first | with_reducible refine Gd.t ?_ | with_reducible refine Gd.f ?_ | with_reducible refine Gd.dec (fun _ => ?_) (fun _ => ?_) | with_reducible refine Gd.beq (fun _ => ?_) (fun _ => ?_) | with_reducible refine Gd.bne (fun _ => ?_) (fun _ => ?_) | with_reducible refine Gd.not ?_ | refine Gd.t ?_ | refine Gd.f ?_ | with_reducible refine Gd.var (fun _ => ?_) (fun _ => ?_)) <;> first | (exfalso; omega) | skip) | with_reducible refine Sq.mk ?_ | ((with_reducible show Ld1 _ _ _); first | refine Ld1.h H ?_ | refine Ld1.rF ?_ | refine Ld1.r ?_) | ((with_reducible show Ld _ _ _ _); first | refine Ld.h H ?_ | refine Ld.r ?_) | ((with_reducible show Ix _ _ _ _ _); (first | refine Ix.h ?_ | refine Ix.ha ?_)) | (refine Al.hp H ?_; clear H; intro _ _ H _) | (refine St.h H ?_; clear H; intro _ H))
  -- the instructions
  refine Lp.g0 T.ok (σ := Nat) (fun i => [(5, .int .i64 (i : Int)), (1, .pointer (some ⟨pp, 0, none⟩)), (2, .pointer (some ⟨pr, 0, none⟩))])
    (fun i w' => i ≤ l.length ∧ fs1 (fun _ f => ins1 (fns l) f) (fns l) 0 = fs1 (fun _ f => ins1 (fns l) f) ((fns l).drop i) i ∧ Hp nw w w' [bk pr 48 (T.t48.zero.cells.toList), bk pp 46 (pv B l.length d).cells.toList]) (fun i _ => l.length - i) 0 rfl ⟨rfl, rfl, rfl, trivial⟩ ⟨Nat.zero_le _, rfl, H⟩ ?_
  clear H
  rintro i w6 ⟨hi, hfs, H⟩
  by_cases hlt : i < l.length
  · obtain ⟨x, hx⟩ : ∃ x, l[i]? = some x := ⟨_, List.getElem?_eq_getElem hlt⟩
    have hxm := List.mem_of_getElem? hx
    have hfx := fns_at hx
    have hB5 := RdS.from H.e hB.top
    have hshx := hsh x hxm
    obtain ⟨hl1, hl2⟩ := shaped_len hshx
    have hrx : 1 ≤ x.1.regs ∧ x.1.regs ≤ 16 := by simp only [shapedB, decide_eq_true_eq] at hshx; omega
    have hwl : IntKind.i64.wrap ((x.1.code.length : Int) - 1) = ((x.1.code.length - 1 : Nat) : Int) := w64 (by omega) (by omega) (by omega)
    repeat' ((conv => whnf); first | (((with_reducible show Gd _ _ _); first | with_reducible refine Gd.t ?_ | with_reducible refine Gd.f ?_ | with_reducible refine Gd.dec (fun _ => ?_) (fun _ => ?_) | with_reducible refine Gd.beq (fun _ => ?_) (fun _ => ?_) | with_reducible refine Gd.bne (fun _ => ?_) (fun _ => ?_) | with_reducible refine Gd.not ?_ | refine Gd.t ?_ | refine Gd.f ?_ | with_reducible refine Gd.var (fun _ => ?_) (fun _ => ?_)) <;> first | (exfalso; omega) | skip) | with_reducible refine Sq.mk ?_ | ((with_reducible show Ld1 _ _ _); first | refine Ld1.h H ?_ | refine Ld1.rF ?_ | refine Ld1.r ?_) | ((with_reducible show Ld _ _ _ _); first | refine Ld.h H ?_ | refine Ld.r ?_) | ((with_reducible show Ix _ _ _ _ _); (first | refine Ix.h ?_ | refine Ix.ha ?_)) | (refine St.h H ?_; clear H; intro _ H))
    ((conv => whnf); refine Al.hp H ?_; clear H; intro pc _ H _)
    repeat' ((conv => whnf); first | (((with_reducible show Gd _ _ _); first | with_reducible refine Gd.t ?_ | with_reducible refine Gd.f ?_ | with_reducible refine Gd.dec (fun _ => ?_) (fun _ => ?_) | with_reducible refine Gd.beq (fun _ => ?_) (fun _ => ?_) | with_reducible refine Gd.bne (fun _ => ?_) (fun _ => ?_) | with_reducible refine Gd.not ?_ | refine Gd.t ?_ | refine Gd.f ?_ | with_reducible refine Gd.var (fun _ => ?_) (fun _ => ?_)) <;> first | (exfalso; omega) | skip) | with_reducible refine Sq.mk ?_ | ((with_reducible show Ld1 _ _ _); first | refine Ld1.h H ?_ | refine Ld1.rF ?_ | refine Ld1.r ?_) | ((with_reducible show Ld _ _ _ _); first | refine Ld.h H ?_ | refine Ld.r ?_) | ((with_reducible show Ix _ _ _ _ _); (first | refine Ix.h ?_ | refine Ix.ha ?_)) | (refine Al.hp H ?_; clear H; intro _ _ H _) | (refine St.h H ?_; clear H; intro _ H))
    refine Lp.g0 T.ok (σ := Nat) (fun k => [(7, .int .i64 (k : Int)), (6, .pointer (some ⟨pc, 0, none⟩)), (5, .int .i64 (i : Int)), (1, .pointer (some ⟨pp, 0, none⟩)), (2, .pointer (some ⟨pr, 0, none⟩))])
      (fun k w' => k ≤ x.1.code.length ∧ fs1 (insG (fns l) x.1) x.1.code 0 = fs1 (insG (fns l) x.1) (x.1.code.drop k) k ∧ Hp nw w w' [bk pc 24 (x.1.v x.2.1 x.2.2).cells.toList, bk pr 48 (T.t48.zero.cells.toList), bk pp 46 (pv B l.length d).cells.toList]) (fun k _ => x.1.code.length - k) 0 rfl ⟨rfl, rfl, rfl, rfl, rfl, trivial⟩ ⟨Nat.zero_le _, rfl, H⟩ ?_
    clear H hB5
    rintro k w7 ⟨hk, hfk, H⟩
    by_cases hkl : k < x.1.code.length
    · obtain ⟨y, hy⟩ : ∃ y, x.1.code[k]? = some y := ⟨_, List.getElem?_eq_getElem hkl⟩
      have hA7 := RdS.from H.e (hB.code x hxm)
      have hB7 := RdS.from H.e hB.top
      repeat' ((conv => whnf); first | (((with_reducible show Gd _ _ _); first | with_reducible refine Gd.t ?_ | with_reducible refine Gd.f ?_ | with_reducible refine Gd.dec (fun _ => ?_) (fun _ => ?_) | with_reducible refine Gd.beq (fun _ => ?_) (fun _ => ?_) | with_reducible refine Gd.bne (fun _ => ?_) (fun _ => ?_) | with_reducible refine Gd.not ?_ | refine Gd.t ?_ | refine Gd.f ?_ | with_reducible refine Gd.var (fun _ => ?_) (fun _ => ?_)) <;> first | (exfalso; omega) | skip) | with_reducible refine Sq.mk ?_ | ((with_reducible show Ld1 _ _ _); first | refine Ld1.h H ?_ | refine Ld1.rF ?_ | refine Ld1.r ?_) | ((with_reducible show Ld _ _ _ _); first | refine Ld.h H ?_ | refine Ld.r ?_) | ((with_reducible show Ix _ _ _ _ _); (first | refine Ix.h ?_ | refine Ix.ha ?_)) | (refine Al.hp H ?_; clear H; intro _ _ H _) | (refine St.h H ?_; clear H; intro _ H))
      ((conv => whnf); refine Dr.quiet T.ok mixed (by kernel_rfl) (fun W hW => ?_))
      repeat' (first | ((conv => whnf); first | (((with_reducible show Gd _ _ _); first | with_reducible refine Gd.t ?_ | with_reducible refine Gd.f ?_ | with_reducible refine Gd.dec (fun _ => ?_) (fun _ => ?_) | with_reducible refine Gd.beq (fun _ => ?_) (fun _ => ?_) | with_reducible refine Gd.bne (fun _ => ?_) (fun _ => ?_) | with_reducible refine Gd.not ?_ | refine Gd.t ?_ | refine Gd.f ?_ | with_reducible refine Gd.var (fun _ => ?_) (fun _ => ?_)) <;> first | (exfalso; omega) | skip) | ((with_reducible show QLd1 _ _ _); first | refine QLd1.h hW H ?_ | refine QLd1.rF hW ?_ | refine QLd1.r hW ?_) | ((with_reducible show QLd _ _ _ _); first | refine QLd.h hW H ?_ | refine QLd.r hW ?_) | ((with_reducible show Ix _ _ _ _ _); (first | refine Ix.h ?_ | refine Ix.ha ?_))) | ((conv => whnf); refine QCl.mk hW (fun _ ee => Cl.mk (alone_c x.1 x.2.1 x.2.2 y _) (fun _ _ h => h)) ?_) | ((conv => whnf); refine QCl.mk hW (fun _ ee => Cl.mk (called_c x.1 x.2.1 x.2.2 y B l d _ (RdS.from ee hB7) hrx) (fun _ _ h => h)) ?_))
      all_goals
        (intro _ eT; replace H := H.ext eT; clear hW eT)
        repeat' ((conv => whnf); first | (((with_reducible show Gd _ _ _); first | with_reducible refine Gd.t ?_ | with_reducible refine Gd.f ?_ | with_reducible refine Gd.dec (fun _ => ?_) (fun _ => ?_) | with_reducible refine Gd.beq (fun _ => ?_) (fun _ => ?_) | with_reducible refine Gd.bne (fun _ => ?_) (fun _ => ?_) | with_reducible refine Gd.not ?_ | refine Gd.t ?_ | refine Gd.f ?_ | with_reducible refine Gd.var (fun _ => ?_) (fun _ => ?_)) <;> first | (exfalso; omega) | skip) | with_reducible refine Sq.mk ?_ | ((with_reducible show Ld1 _ _ _); first | refine Ld1.h H ?_ | refine Ld1.rF ?_ | refine Ld1.r ?_) | ((with_reducible show Ld _ _ _ _); first | refine Ld.h H ?_ | refine Ld.r ?_) | ((with_reducible show Ix _ _ _ _ _); (first | refine Ix.h ?_ | refine Ix.ha ?_)) | (refine Al.hp H ?_; clear H; intro _ _ H _) | (refine St.h H ?_; clear H; intro _ H))
      · have hg : insG (fns l) x.1 k y = none := by
          rw [insG, (by assumption : aloneB x.1 y = true), (by assumption : calledB (fns l) x.1 y = true)]; rfl
        rw [fs1_no hy hg] at hfk
        exact ⟨k + 1, ⟨at_int rfl (w64 (by simp) (by omega) (by omega)), rfl, rfl, rfl, rfl, trivial⟩, rfl, ⟨by omega, hfk, H⟩, by omega⟩
      all_goals
        have hg : insG (fns l) x.1 k y = some () := by
          first | rw [insG, (by assumption : aloneB x.1 y = true), (by assumption : calledB (fns l) x.1 y = false)]; rfl | rw [insG, (by assumption : aloneB x.1 y = false)]; rfl
        rw [fs1_yes hy hg] at hfk
        rw [fs1_yes hfx (by rw [ins1, hfk])] at hfs
        exact ⟨by rw [hC1]; simp only [hfs] <;> rfl, H.e⟩
    · have hk : k = x.1.code.length := by omega
      subst hk
      rw [fs1_end (Nat.le_refl _)] at hfk
      have hi1 := ins1_go hfk
      repeat' (first | ((conv => whnf); first | (((with_reducible show Gd _ _ _); first | with_reducible refine Gd.t ?_ | with_reducible refine Gd.f ?_ | with_reducible refine Gd.dec (fun _ => ?_) (fun _ => ?_) | with_reducible refine Gd.beq (fun _ => ?_) (fun _ => ?_) | with_reducible refine Gd.bne (fun _ => ?_) (fun _ => ?_) | with_reducible refine Gd.not ?_ | refine Gd.t ?_ | refine Gd.f ?_ | with_reducible refine Gd.var (fun _ => ?_) (fun _ => ?_)) <;> first | (exfalso; omega) | skip) | with_reducible refine Sq.mk ?_ | ((with_reducible show Ld1 _ _ _); first | refine Ld1.h H ?_ | refine Ld1.rF ?_ | refine Ld1.r ?_) | ((with_reducible show Ld _ _ _ _); first | refine Ld.h H ?_ | refine Ld.r ?_) | ((with_reducible show Ix _ _ _ _ _); (first | refine Ix.h ?_ | refine Ix.ha ?_)) | (refine Al.hp H ?_; clear H; intro _ _ H _) | (refine St.h H ?_; clear H; intro _ H)) | (((conv => whnf); refine Cl.mk (ends_c x.1 x.2.1 x.2.2 _ (RdS.from H.e (hB.code x hxm)) hl1 hl2) ?_); rintro _ _ ⟨rfl, hx⟩; replace H := H.ext hx; clear hx))
      · rw [fs1_no hfx (by rw [hi1, if_pos (by assumption)])] at hfs
        exact ⟨i + 1, ⟨at_int (m := ((i + 1 : Nat) : Int)) rfl (w64 (by simp) (by omega) (by omega)), rfl, rfl, trivial⟩, rfl, ⟨by omega, hfs, H.d0⟩, by omega⟩
      · rw [(by assumption : endsB x.1 = false)] at hi1
        rw [fs1_yes hfx hi1] at hfs
        exact ⟨by rw [hC1]; simp only [hfs]; rw [hwl]; rfl, H.e⟩
  have hi : i = l.length := by omega
  subst hi
  rw [fs1_end (by omega)] at hfs
  have hsd := all_sound hsh hfs
  have hC2 : checkL (fns l) = match fs1 (fun _ f => slot1 f) (fns l) 0 with
        | some (i, e, k) => (e, i, k)
        | none => (0, 0, 0) := by rw [hC1]; simp only [hfs]
  clear hC1 hfs hlt hi
  repeat' ((conv => whnf); first | (((with_reducible show Gd _ _ _); first | with_reducible refine Gd.t ?_ | with_reducible refine Gd.f ?_ | with_reducible refine Gd.dec (fun _ => ?_) (fun _ => ?_) | with_reducible refine Gd.beq (fun _ => ?_) (fun _ => ?_) | with_reducible refine Gd.bne (fun _ => ?_) (fun _ => ?_) | with_reducible refine Gd.not ?_ | refine Gd.t ?_ | refine Gd.f ?_ | with_reducible refine Gd.var (fun _ => ?_) (fun _ => ?_)) <;> first | (exfalso; omega) | skip) | with_reducible refine Sq.mk ?_ | ((with_reducible show Ld1 _ _ _); first | refine Ld1.h H ?_ | refine Ld1.rF ?_ | refine Ld1.r ?_) | ((with_reducible show Ld _ _ _ _); first | refine Ld.h H ?_ | refine Ld.r ?_) | ((with_reducible show Ix _ _ _ _ _); (first | refine Ix.h ?_ | refine Ix.ha ?_)) | (refine Al.hp H ?_; clear H; intro _ _ H _) | (refine St.h H ?_; clear H; intro _ H))
  -- the slots
  refine Lp.g0 T.ok (σ := Nat) (fun i => [(9, .int .i64 (i : Int)), (1, .pointer (some ⟨pp, 0, none⟩)), (2, .pointer (some ⟨pr, 0, none⟩))])
    (fun i w' => i ≤ l.length ∧ fs1 (fun _ f => slot1 f) (fns l) 0 = fs1 (fun _ f => slot1 f) ((fns l).drop i) i ∧ Hp nw w w' [bk pr 48 (T.t48.zero.cells.toList), bk pp 46 (pv B l.length d).cells.toList]) (fun i _ => l.length - i) 0 rfl ⟨rfl, rfl, rfl, trivial⟩ ⟨Nat.zero_le _, rfl, H⟩ ?_
  clear H
  rintro i w8 ⟨hi, hfs, H⟩
  by_cases hlt : i < l.length
  · obtain ⟨x, hx⟩ : ∃ x, l[i]? = some x := ⟨_, List.getElem?_eq_getElem hlt⟩
    have hxm := List.mem_of_getElem? hx
    have hfx := fns_at hx
    have hB5 := RdS.from H.e hB.top
    have hshx := hsh x hxm
    have hS := hsd x hxm
    obtain ⟨hl1, hl2⟩ := shaped_len hshx
    obtain ⟨m, hm, hm8⟩ := slots_nat hshx
    have hmt : x.1.slots.toNat = m := by omega
    repeat' ((conv => whnf); first | (((with_reducible show Gd _ _ _); first | with_reducible refine Gd.t ?_ | with_reducible refine Gd.f ?_ | with_reducible refine Gd.dec (fun _ => ?_) (fun _ => ?_) | with_reducible refine Gd.beq (fun _ => ?_) (fun _ => ?_) | with_reducible refine Gd.bne (fun _ => ?_) (fun _ => ?_) | with_reducible refine Gd.not ?_ | refine Gd.t ?_ | refine Gd.f ?_ | with_reducible refine Gd.var (fun _ => ?_) (fun _ => ?_)) <;> first | (exfalso; omega) | skip) | with_reducible refine Sq.mk ?_ | ((with_reducible show Ld1 _ _ _); first | refine Ld1.h H ?_ | refine Ld1.rF ?_ | refine Ld1.r ?_) | ((with_reducible show Ld _ _ _ _); first | refine Ld.h H ?_ | refine Ld.r ?_) | ((with_reducible show Ix _ _ _ _ _); (first | refine Ix.h ?_ | refine Ix.ha ?_)) | (refine St.h H ?_; clear H; intro _ H))
    ((conv => whnf); refine Al.hp H ?_; clear H; intro pc _ H _)
    repeat' ((conv => whnf); first | (((with_reducible show Gd _ _ _); first | with_reducible refine Gd.t ?_ | with_reducible refine Gd.f ?_ | with_reducible refine Gd.dec (fun _ => ?_) (fun _ => ?_) | with_reducible refine Gd.beq (fun _ => ?_) (fun _ => ?_) | with_reducible refine Gd.bne (fun _ => ?_) (fun _ => ?_) | with_reducible refine Gd.not ?_ | refine Gd.t ?_ | refine Gd.f ?_ | with_reducible refine Gd.var (fun _ => ?_) (fun _ => ?_)) <;> first | (exfalso; omega) | skip) | with_reducible refine Sq.mk ?_ | ((with_reducible show Ld1 _ _ _); first | refine Ld1.h H ?_ | refine Ld1.rF ?_ | refine Ld1.r ?_) | ((with_reducible show Ld _ _ _ _); first | refine Ld.h H ?_ | refine Ld.r ?_) | ((with_reducible show Ix _ _ _ _ _); (first | refine Ix.h ?_ | refine Ix.ha ?_)) | (refine Al.hp H ?_; clear H; intro _ _ H _) | (refine St.h H ?_; clear H; intro _ H))
    clear hB5
    ((conv => whnf); refine Cl.mk (Flow_yes x.1 x.2.1 x.2.2 m _ (RdS.from H.e (hB.code x hxm)) hS hm hm8) ?_)
    rintro _ w9 ⟨p, ps, rfl, hpl2, hM, e⟩
    replace H := H.fr0 (mx_new hM e) (.inl rfl)
    clear hM e
    obtain ⟨bb, H⟩ : ∃ bb, Hp nw w w9 [mxk bb p x.1.code.length m ps (flwG x.1), bk pc 24 (x.1.v x.2.1 x.2.2).cells.toList, bk pr 48 (T.t48.zero.cells.toList), bk pp 46 (pv B l.length d).cells.toList] := ⟨_, H⟩
    repeat' ((conv => whnf); first | (((with_reducible show Gd _ _ _); first | with_reducible refine Gd.t ?_ | with_reducible refine Gd.f ?_ | with_reducible refine Gd.dec (fun _ => ?_) (fun _ => ?_) | with_reducible refine Gd.beq (fun _ => ?_) (fun _ => ?_) | with_reducible refine Gd.bne (fun _ => ?_) (fun _ => ?_) | with_reducible refine Gd.not ?_ | refine Gd.t ?_ | refine Gd.f ?_ | with_reducible refine Gd.var (fun _ => ?_) (fun _ => ?_)) <;> first | (exfalso; omega) | skip) | with_reducible refine Sq.mk ?_ | ((with_reducible show Ld1 _ _ _); first | refine Ld1.h H ?_ | refine Ld1.rF ?_ | refine Ld1.r ?_) | ((with_reducible show Ld _ _ _ _); first | refine Ld.h H ?_ | refine Ld.r ?_) | ((with_reducible show Ix _ _ _ _ _); (first | refine Ix.h ?_ | refine Ix.ha ?_)) | (refine Al.hp H ?_; clear H; intro _ _ H _) | (refine St.h H ?_; clear H; intro _ H))
    refine Lp.g0 T.ok (σ := Nat) (fun k => [(12, .int .i64 (k : Int)), (11, .slice (some ⟨p, 0, none⟩) x.1.code.length x.1.code.length), (10, .pointer (some ⟨pc, 0, none⟩)), (9, .int .i64 (i : Int)), (1, .pointer (some ⟨pp, 0, none⟩)), (2, .pointer (some ⟨pr, 0, none⟩))])
      (fun k w' => k ≤ x.1.code.length ∧ fs1 (slotG x.1) x.1.code 0 = fs1 (slotG x.1) (x.1.code.drop k) k ∧ Hp nw w w' [mxk bb p x.1.code.length m ps (flwG x.1), bk pc 24 (x.1.v x.2.1 x.2.2).cells.toList, bk pr 48 (T.t48.zero.cells.toList), bk pp 46 (pv B l.length d).cells.toList]) (fun k _ => x.1.code.length - k) 0 rfl ⟨rfl, rfl, rfl, rfl, rfl, rfl, trivial⟩ ⟨Nat.zero_le _, rfl, H⟩ ?_
    clear H
    rintro k w7 ⟨hk, hfk, H⟩
    by_cases hkl : k < x.1.code.length
    · obtain ⟨y, hy⟩ : ∃ y, x.1.code[k]? = some y := ⟨_, List.getElem?_eq_getElem hkl⟩
      obtain ⟨q, hq⟩ : ∃ q, ps[k]? = some q := ⟨_, List.getElem?_eq_getElem (by omega)⟩
      obtain ⟨h5, h7⟩ := sound_at hS hy
      have hgo : rowFault y (rowL m (flwG x.1 k)) = 0 → fs1 (slotG x.1) x.1.code 0 = fs1 (slotG x.1) (x.1.code.drop (k + 1)) (k + 1) := fun h0 => by
        rw [hfk, fs1_no hy]
        simp only [slotG, hmt]; rw [if_pos h0]
      have hstop : rowFault y (rowL m (flwG x.1 k)) ≠ 0 → slot1 x.1 = some (rowFault y (rowL m (flwG x.1 k)), k) := fun h0 => by
        have hg : slotG x.1 k y = some (rowFault y (rowL m (flwG x.1 k))) := by simp only [slotG, hmt]; rw [if_neg h0]
        rw [slot1, hfk, fs1_yes hy hg]; rfl
      have hA7 := RdS.from H.e (hB.code x hxm)
      have hM : Mx _ bb p x.1.code.length m ps (flwG x.1) := H.atC 0 rfl
      have hr := hM.rd (by omega)
      have hat := hM.at hq
      have hrow := rd_full (hM.row k q hq) (fun _ _ => rfl)
      have hlen := hM.len
      have hlen2 := rowL_len m (flwG x.1 k)
      have hsf : ∀ w', Ext w7 w' → Cl Tryd.prog 63 #[y.v, .slice (some ⟨q, 0, none⟩) m m] w' (fun v w'' => v = .int .i64 (rowFault y (rowL m (flwG x.1 k))) ∧ Ext w' w'') (fun _ _ => False) := fun w' ee => by
        have := slotFault_c y (some ⟨q, 0, none⟩) (rowL m (flwG x.1 k)) m w' (RdS.from ee hrow) (by omega) (fun h => by have := h5 h; omega) (fun h => by have := h7 h; omega)
        rw [hlen2] at this
        exact this
      repeat' ((conv => whnf); first | (((with_reducible show Gd _ _ _); first | with_reducible refine Gd.t ?_ | with_reducible refine Gd.f ?_ | with_reducible refine Gd.dec (fun _ => ?_) (fun _ => ?_) | with_reducible refine Gd.beq (fun _ => ?_) (fun _ => ?_) | with_reducible refine Gd.bne (fun _ => ?_) (fun _ => ?_) | with_reducible refine Gd.not ?_ | refine Gd.t ?_ | refine Gd.f ?_ | with_reducible refine Gd.var (fun _ => ?_) (fun _ => ?_)) <;> first | (exfalso; omega) | skip) | with_reducible refine Sq.mk ?_ | ((with_reducible show Ld1 _ _ _); first | refine Ld1.h H ?_ | refine Ld1.rF ?_ | refine Ld1.r ?_) | ((with_reducible show Ld _ _ _ _); first | refine Ld.h H ?_ | refine Ld.r ?_) | ((with_reducible show Ix _ _ _ _ _); (first | refine Ix.h ?_ | refine Ix.ha ?_)) | (refine Al.hp H ?_; clear H; intro _ _ H _) | (refine St.h H ?_; clear H; intro _ H))
      ((conv => whnf); refine Dr.quiet T.ok mixed (by kernel_rfl) (fun W hW => ?_))
      repeat' (first | ((conv => whnf); first | (((with_reducible show Gd _ _ _); first | with_reducible refine Gd.t ?_ | with_reducible refine Gd.f ?_ | with_reducible refine Gd.dec (fun _ => ?_) (fun _ => ?_) | with_reducible refine Gd.beq (fun _ => ?_) (fun _ => ?_) | with_reducible refine Gd.bne (fun _ => ?_) (fun _ => ?_) | with_reducible refine Gd.not ?_ | refine Gd.t ?_ | refine Gd.f ?_ | with_reducible refine Gd.var (fun _ => ?_) (fun _ => ?_)) <;> first | (exfalso; omega) | skip) | ((with_reducible show QLd1 _ _ _); first | refine QLd1.h hW H ?_ | refine QLd1.rF hW ?_ | refine QLd1.r hW ?_) | ((with_reducible show QLd _ _ _ _); first | refine QLd.h hW H ?_ | refine QLd.r hW ?_) | ((with_reducible show Ix _ _ _ _ _); (first | refine Ix.h ?_ | refine Ix.ha ?_))) | ((conv => whnf); refine QCl.mk hW (fun _ ee => Cl.mk (hsf _ ee) (fun _ _ h => h)) ?_))
      clear hr hrow hsf hM
      (intro _ eT; replace H := H.ext eT; clear hW eT)
      repeat' ((conv => whnf); first | (((with_reducible show Gd _ _ _); first | with_reducible refine Gd.t ?_ | with_reducible refine Gd.f ?_ | with_reducible refine Gd.dec (fun _ => ?_) (fun _ => ?_) | with_reducible refine Gd.beq (fun _ => ?_) (fun _ => ?_) | with_reducible refine Gd.bne (fun _ => ?_) (fun _ => ?_) | with_reducible refine Gd.not ?_ | refine Gd.t ?_ | refine Gd.f ?_ | with_reducible refine Gd.var (fun _ => ?_) (fun _ => ?_)) <;> first | (exfalso; omega) | skip) | with_reducible refine Sq.mk ?_ | ((with_reducible show Ld1 _ _ _); first | refine Ld1.h H ?_ | refine Ld1.rF ?_ | refine Ld1.r ?_) | ((with_reducible show Ld _ _ _ _); first | refine Ld.h H ?_ | refine Ld.r ?_) | ((with_reducible show Ix _ _ _ _ _); (first | refine Ix.h ?_ | refine Ix.ha ?_)) | (refine Al.hp H ?_; clear H; intro _ _ H _) | (refine St.h H ?_; clear H; intro _ H))
      · have h0 := hstop (by assumption)
        rw [fs1_yes hfx h0] at hfs
        exact ⟨by rw [hC2]; simp only [hfs] <;> rfl, H.e⟩
      · exact ⟨k + 1, ⟨at_int rfl (w64 (by simp) (by omega) (by omega)), rfl, rfl, rfl, rfl, rfl, trivial⟩, rfl, ⟨by omega, hgo (by assumption), H⟩, by omega⟩
    · have hk : k = x.1.code.length := by omega
      subst hk
      rw [fs1_end (Nat.le_refl _)] at hfk
      repeat' ((conv => whnf); first | (((with_reducible show Gd _ _ _); first | with_reducible refine Gd.t ?_ | with_reducible refine Gd.f ?_ | with_reducible refine Gd.dec (fun _ => ?_) (fun _ => ?_) | with_reducible refine Gd.beq (fun _ => ?_) (fun _ => ?_) | with_reducible refine Gd.bne (fun _ => ?_) (fun _ => ?_) | with_reducible refine Gd.not ?_ | refine Gd.t ?_ | refine Gd.f ?_ | with_reducible refine Gd.var (fun _ => ?_) (fun _ => ?_)) <;> first | (exfalso; omega) | skip) | with_reducible refine Sq.mk ?_ | ((with_reducible show Ld1 _ _ _); first | refine Ld1.h H ?_ | refine Ld1.rF ?_ | refine Ld1.r ?_) | ((with_reducible show Ld _ _ _ _); first | refine Ld.h H ?_ | refine Ld.r ?_) | ((with_reducible show Ix _ _ _ _ _); (first | refine Ix.h ?_ | refine Ix.ha ?_)) | (refine Al.hp H ?_; clear H; intro _ _ H _) | (refine St.h H ?_; clear H; intro _ H))
      rw [fs1_no hfx (by rw [slot1, hfk]; rfl)] at hfs
      exact ⟨i + 1, ⟨at_int (m := ((i + 1 : Nat) : Int)) rfl (w64 (by simp) (by omega) (by omega)), rfl, rfl, trivial⟩, rfl, ⟨by omega, hfs, H.d0.d0⟩, by omega⟩
  have hi : i = l.length := by omega
  subst hi
  rw [fs1_end (by omega)] at hfs
  have hC3 : checkL (fns l) = (0, 0, 0) := by rw [hC2]; simp only [hfs]
  repeat' ((conv => whnf); first | (((with_reducible show Gd _ _ _); first | with_reducible refine Gd.t ?_ | with_reducible refine Gd.f ?_ | with_reducible refine Gd.dec (fun _ => ?_) (fun _ => ?_) | with_reducible refine Gd.beq (fun _ => ?_) (fun _ => ?_) | with_reducible refine Gd.bne (fun _ => ?_) (fun _ => ?_) | with_reducible refine Gd.not ?_ | refine Gd.t ?_ | refine Gd.f ?_ | with_reducible refine Gd.var (fun _ => ?_) (fun _ => ?_)) <;> first | (exfalso; omega) | skip) | with_reducible refine Sq.mk ?_ | ((with_reducible show Ld1 _ _ _); first | refine Ld1.h H ?_ | refine Ld1.rF ?_ | refine Ld1.r ?_) | ((with_reducible show Ld _ _ _ _); first | refine Ld.h H ?_ | refine Ld.r ?_) | ((with_reducible show Ix _ _ _ _ _); (first | refine Ix.h ?_ | refine Ix.ha ?_)) | (refine Al.hp H ?_; clear H; intro _ _ H _) | (refine St.h H ?_; clear H; intro _ H))
  exact ⟨by rw [hC3]; rfl, H.e⟩
end Go.Proofs.YtbbadmlekagloaaDoor
namespace Go.Proofs.YtbbadmlekagloaaDoor
open Go Go.Sh
set_option linter.unusedVariables false
set_option linter.unusedSimpArgs false
attribute [local irreducible] Blk Ext RdS
theorem same_c (A B : Option Addr) (l m : List FE) (c d : Nat) (w : World) (hA : RdP w A l) (hB : RdP w B m) (hl : l.length ≤ 1048576) (hc : ∀ x ∈ l, x.1.code.length ≤ 1048576) :
    Cl Tryd.prog 46 #[pv A l.length c, pv B m.length d] w (fun v w' => v = .bool (decide (fns l = fns m)) ∧ Ext w w') (fun _ _ => False) := by
  refine calls_ex (args := [pv A l.length c, pv B m.length d]) T.ok Tryd.func46 rfl rfl rfl rfl ?_
  have H := Hp.begin nw w
  refine Sq.mk ?_
  ((conv => whnf); refine Al.hp H ?_; clear H; intro pp _ H _)
  ((conv => whnf); refine Al.hp H ?_; clear H; intro pq _ H _)
  repeat' ((conv => whnf); first | (((with_reducible show Gd _ _ _); first | with_reducible refine Gd.t ?_ | with_reducible refine Gd.f ?_ | with_reducible refine Gd.dec (fun _ => ?_) (fun _ => ?_) | with_reducible refine Gd.beq (fun _ => ?_) (fun _ => ?_) | with_reducible refine Gd.bne (fun _ => ?_) (fun _ => ?_) | with_reducible refine Gd.not ?_ | refine Gd.t ?_ | refine Gd.f ?_ | with_reducible refine Gd.var (fun _ => ?_) (fun _ => ?_)) <;> first | (exfalso; omega) | skip) | with_reducible refine Sq.mk ?_ | ((with_reducible show Ld1 _ _ _); first | refine Ld1.h H ?_ | refine Ld1.rF ?_ | refine Ld1.r ?_) | ((with_reducible show Ld _ _ _ _); first | refine Ld.h H ?_ | refine Ld.r ?_) | ((with_reducible show Ix _ _ _ _ _); (first | refine Ix.h ?_ | refine Ix.ha ?_)) | (refine Al.hp H ?_; clear H; intro _ _ H _) | (refine St.h H ?_; clear H; intro _ H))
  · refine ⟨b_eq ?_, H.e⟩
    rw [eq_comm, decide_eq_false_iff_not]
    intro h
    have := congrArg List.length h
    rw [fns_len, fns_len] at this
    omega
  have hlm : l.length = m.length := by omega
  refine Lp.g0 T.ok (σ := Nat) (fun i => [(5, .int .i64 (i : Int)), (2, .pointer (some ⟨pp, 0, none⟩)), (3, .pointer (some ⟨pq, 0, none⟩))])
    (fun i w' => i ≤ l.length ∧ (fns l).take i = (fns m).take i ∧ Hp nw w w' [bk pq 46 (pv B m.length d).cells.toList, bk pp 46 (pv A l.length c).cells.toList]) (fun i _ => l.length - i) 0 rfl ⟨rfl, rfl, rfl, trivial⟩ ⟨Nat.zero_le _, by simp, H⟩ ?_
  clear H
  rintro i w5 ⟨hi, htk, H⟩
  by_cases hlt : i < l.length
  · obtain ⟨x, hx⟩ : ∃ x, l[i]? = some x := ⟨_, List.getElem?_eq_getElem hlt⟩
    obtain ⟨y, hy⟩ : ∃ y, m[i]? = some y := ⟨_, List.getElem?_eq_getElem (by omega)⟩
    have hA5 := hA.ext H.e
    have hB5 := hB.ext H.e
    have hAt := hA5.top
    have hBt := hB5.top
    have hxm := List.mem_of_getElem? hx
    have hym := List.mem_of_getElem? hy
    repeat' ((conv => whnf); first | (((with_reducible show Gd _ _ _); first | with_reducible refine Gd.t ?_ | with_reducible refine Gd.f ?_ | with_reducible refine Gd.dec (fun _ => ?_) (fun _ => ?_) | with_reducible refine Gd.beq (fun _ => ?_) (fun _ => ?_) | with_reducible refine Gd.bne (fun _ => ?_) (fun _ => ?_) | with_reducible refine Gd.not ?_ | refine Gd.t ?_ | refine Gd.f ?_ | with_reducible refine Gd.var (fun _ => ?_) (fun _ => ?_)) <;> first | (exfalso; omega) | skip) | with_reducible refine Sq.mk ?_ | ((with_reducible show Ld1 _ _ _); first | refine Ld1.h H ?_ | refine Ld1.rF ?_ | refine Ld1.r ?_) | ((with_reducible show Ld _ _ _ _); first | refine Ld.h H ?_ | refine Ld.r ?_) | ((with_reducible show Ix _ _ _ _ _); (first | refine Ix.h ?_ | refine Ix.ha ?_)) | (refine Al.hp H ?_; clear H; intro _ _ H _) | (refine St.h H ?_; clear H; intro _ H))
    ((conv => whnf); refine Dr.quiet T.ok mixed (by kernel_rfl) (fun W hW => ?_))
    repeat' (first | ((conv => whnf); first | (((with_reducible show Gd _ _ _); first | with_reducible refine Gd.t ?_ | with_reducible refine Gd.f ?_ | with_reducible refine Gd.dec (fun _ => ?_) (fun _ => ?_) | with_reducible refine Gd.beq (fun _ => ?_) (fun _ => ?_) | with_reducible refine Gd.bne (fun _ => ?_) (fun _ => ?_) | with_reducible refine Gd.not ?_ | refine Gd.t ?_ | refine Gd.f ?_ | with_reducible refine Gd.var (fun _ => ?_) (fun _ => ?_)) <;> first | (exfalso; omega) | skip) | ((with_reducible show QLd1 _ _ _); first | refine QLd1.h hW H ?_ | refine QLd1.rF hW ?_ | refine QLd1.r hW ?_) | ((with_reducible show QLd _ _ _ _); first | refine QLd.h hW H ?_ | refine QLd.r hW ?_) | ((with_reducible show Ix _ _ _ _ _); (first | refine Ix.h ?_ | refine Ix.ha ?_))) | ((conv => whnf); refine QCl.mk hW (fun _ ee => Cl.mk (sameFunc_c x.1 y.1 x.2.1 y.2.1 x.2.2 y.2.2 _ (RdS.from ee (hA5.code x hxm)) (RdS.from ee (hB5.code y hym)) (hc x hxm)) (fun _ _ h => h)) ?_))
    clear hA5 hB5 hAt hBt
    (intro _ eT; replace H := H.ext eT; clear hW eT)
    repeat' ((conv => whnf); first | (((with_reducible show Gd _ _ _); first | with_reducible refine Gd.t ?_ | with_reducible refine Gd.f ?_ | with_reducible refine Gd.dec (fun _ => ?_) (fun _ => ?_) | with_reducible refine Gd.beq (fun _ => ?_) (fun _ => ?_) | with_reducible refine Gd.bne (fun _ => ?_) (fun _ => ?_) | with_reducible refine Gd.not ?_ | refine Gd.t ?_ | refine Gd.f ?_ | with_reducible refine Gd.var (fun _ => ?_) (fun _ => ?_)) <;> first | (exfalso; omega) | skip) | with_reducible refine Sq.mk ?_ | ((with_reducible show Ld1 _ _ _); first | refine Ld1.h H ?_ | refine Ld1.rF ?_ | refine Ld1.r ?_) | ((with_reducible show Ld _ _ _ _); first | refine Ld.h H ?_ | refine Ld.r ?_) | ((with_reducible show Ix _ _ _ _ _); (first | refine Ix.h ?_ | refine Ix.ha ?_)) | (refine Al.hp H ?_; clear H; intro _ _ H _) | (refine St.h H ?_; clear H; intro _ H))
    · rename_i hxy
      exact ⟨i + 1, ⟨at_int (m := ((i + 1 : Nat) : Int)) rfl (w64 (by simp) (by omega) (by omega)), rfl, rfl, trivial⟩, rfl, ⟨by omega, take_next htk (fns_at hx) (by rw [hxy]; exact fns_at hy), H⟩, by omega⟩
    · rename_i hxy
      refine ⟨b_eq ?_, H.e⟩
      rw [eq_comm, decide_eq_false_iff_not]
      intro h
      have h1 := fns_at hx
      rw [h, fns_at hy] at h1
      exact hxy (Option.some.inj h1).symm
  · have hi : i = l.length := by omega
    subst hi
    repeat' ((conv => whnf); first | (((with_reducible show Gd _ _ _); first | with_reducible refine Gd.t ?_ | with_reducible refine Gd.f ?_ | with_reducible refine Gd.dec (fun _ => ?_) (fun _ => ?_) | with_reducible refine Gd.beq (fun _ => ?_) (fun _ => ?_) | with_reducible refine Gd.bne (fun _ => ?_) (fun _ => ?_) | with_reducible refine Gd.not ?_ | refine Gd.t ?_ | refine Gd.f ?_ | with_reducible refine Gd.var (fun _ => ?_) (fun _ => ?_)) <;> first | (exfalso; omega) | skip) | with_reducible refine Sq.mk ?_ | ((with_reducible show Ld1 _ _ _); first | refine Ld1.h H ?_ | refine Ld1.rF ?_ | refine Ld1.r ?_) | ((with_reducible show Ld _ _ _ _); first | refine Ld.h H ?_ | refine Ld.r ?_) | ((with_reducible show Ix _ _ _ _ _); (first | refine Ix.h ?_ | refine Ix.ha ?_)) | (refine Al.hp H ?_; clear H; intro _ _ H _) | (refine St.h H ?_; clear H; intro _ H))
    refine ⟨b_eq ?_, H.e⟩
    rw [eq_comm, decide_eq_true_eq]
    exact take_all (by rw [fns_len, fns_len]; exact hlm) (by rw [fns_len]; exact htk)
end Go.Proofs.YtbbadmlekagloaaDoor
namespace Go.Proofs.YtbbadmlekagloaaDoor
open Go Go.Sh
set_option linter.unusedVariables false
set_option linter.unusedSimpArgs false
attribute [local irreducible] Blk Ext RdS
/-- blocks of code, one apart from the other -/
def CodeBlks (qs : List Nat) (cs : List (List Ins)) (w : World) : Prop := qs.length = cs.length ∧ qs.Nodup ∧ ∀ (i q : Nat) (c : List Ins), qs[i]? = some q → cs[i]? = some c → Blk w q 35 (c.flatMap Ins.enc)
abbrev cdk (qs : List Nat) (cs : List (List Ins)) : Ck := ⟨fun k => k ∈ qs, CodeBlks qs cs, true, false⟩
theorem cdk_ok {qs : List Nat} {cs : List (List Ins)} {w : World} (h : CodeBlks qs cs w) : (cdk qs cs).Ok w := by
  obtain ⟨h1, h2, h3⟩ := h
  refine ⟨⟨h1, h2, h3⟩, fun k hk => ?_, fun w' _ hb => ⟨h1, h2, fun i q c hq hc => ?_⟩⟩
  · obtain ⟨i, hi⟩ := List.getElem?_of_mem hk
    obtain ⟨c, hc⟩ : ∃ c, cs[i]? = some c := ⟨_, List.getElem?_eq_getElem (by rw [← h1]; exact (List.getElem?_eq_some_iff.1 hi).1)⟩
    exact (h3 i k c hi hc).lt
  · have := h3 i q c hq hc
    unfold Blk at this ⊢; rw [hb q (List.mem_of_getElem? hq)]; exact this
theorem cdk_nil (w : World) : CodeBlks [] [] w := ⟨rfl, List.nodup_nil, fun i q c h => by simp at h⟩
theorem Hp.cdSnoc {S : Nat → Prop} {w0 w : World} {Γ : List Ck} {q : Nat} {c : List Ins} {qs : List Nat} {cs : List (List Ins)} (H : Hp S w0 w (bk q 35 (c.flatMap Ins.enc) :: cdk qs cs :: Γ)) : Hp S w0 w (cdk (qs ++ [q]) (cs ++ [c]) :: Γ) := by
  refine H.join2 rfl rfl (.inl rfl) (fun k hk => ?_) fun hd h1 h2 => cdk_ok ?_
  · rcases List.mem_append.1 hk with h | h
    · exact .inr h
    · exact .inl (by simpa using h)
  · obtain ⟨g1, g2, g3⟩ := h2.holds
    have hq : q ∉ qs := fun h => hd q ⟨rfl, h⟩
    refine ⟨by simp [g1], ?_, fun i q' c' hi hc => ?_⟩
    · rw [List.nodup_append]
      exact ⟨g2, by simp, fun a ha b hb => by simp at hb; subst hb; exact fun e => hq (e ▸ ha)⟩
    · rcases Nat.lt_or_ge i qs.length with hlt | hge
      · rw [List.getElem?_append_left hlt] at hi
        rw [List.getElem?_append_left (by omega)] at hc
        exact g3 i q' c' hi hc
      · have : i = qs.length := by have := (List.getElem?_eq_some_iff.1 hi).1; simp at this; omega
        subst this
        rw [List.getElem?_append_right (Nat.le_refl _)] at hi
        rw [List.getElem?_append_right (by omega), g1] at hc
        simp at hi hc
        subst hi hc
        exact h1.holds
/-- an element of one of them is written -/
theorem St.cd {S : Nat → Prop} {w0 w : World} {Γ Γ' : List Ck} {k : World → Prop} {qs : List Nat} {cs : List (List Ins)} {i j q : Nat} {c : List Ins} {x : Ins} (H : Hp S w0 w Γ) (hq : qs[i]? = some q) (hc : cs[i]? = some c) (hj : j < c.length) (hk : ∀ w', Hp S w0 w' Γ' → k w')
    (u : Upd1 Γ (cdk qs cs) (cdk qs (cs.set i (c.set j x))) Γ' := by (repeat (first | exact Upd1.head | apply Upd1.tail))) : St w ((gA (some ⟨q, 0, none⟩)).add (j * 5)) (Ins.enc x) k := by
  obtain ⟨L, R, h2, rfl⟩ := u.sp
  obtain ⟨g1, g2, g3⟩ : CodeBlks qs cs w := H.mem (c := cdk qs cs) (by rw [h2.eq]; simp)
  refine St.elb (g3 i q c hq hc) (fun _ _ => rfl) rfl hj rfl fun w' u hb => hk w' (H.putS h2 (Hp.one (((Tch.refl _ _).upd u (.inl (List.mem_of_getElem? hq)))) (cdk_ok ⟨by simpa using g1, g2, fun i' q' c' hi' hc' => ?_⟩) (fun k hk => .inl hk)) rfl (.inl rfl))
  by_cases e : i' = i
  · subst e
    have hlt := (List.getElem?_eq_some_iff.1 hc).1
    rw [List.getElem?_set_self hlt] at hc'
    rw [hq] at hi'
    simp at hi' hc'
    subst hi' hc'
    exact hb
  · rw [List.getElem?_set_ne (fun h => e h.symm)] at hc'
    have hne : q' ≠ q := fun h => by
      subst h
      have h1 := (List.getElem?_eq_some_iff.1 hi')
      have h2 := (List.getElem?_eq_some_iff.1 hq)
      have h3 := List.pairwise_iff_getElem.1 g2
      rcases Nat.lt_trichotomy i' i with hlt | heq | hgt
      · exact h3 i' i h1.1 h2.1 hlt (h1.2.trans h2.2.symm)
      · exact e heq
      · exact h3 i i' h2.1 h1.1 hgt (h2.2.trans h1.2.symm)
    exact (g3 i' q' c' hi' hc').upd u hne
def lai (f : Fn) (q : Nat) : FE := (f, some ⟨q, 0, none⟩, f.code.length + 2)
def zipE (fs : List Fn) (qs : List Nat) : List FE := List.zipWith lai fs qs
def cdV (f : Fn) (q : Nat) : Value := .slice (some ⟨q, 0, none⟩) (f.code.length + 2) (f.code.length + 2)
def zipV (fs : List Fn) (qs : List Nat) : List Value := List.zipWith cdV fs qs
def spC (f : Fn) : List Ins := f.code ++ [oddI 0, oddI 1]
def zF : FE := (⟨0, 0, 0, []⟩, none, 0)
def markF : FE := (⟨-5, 0, 0, []⟩, none, 0)
theorem zip_snoc {α : Type} (g : Fn → Nat → α) {f : Fn} {q : Nat} : ∀ {fs : List Fn} {qs : List Nat}, fs[qs.length]? = some f → List.zipWith g fs (qs ++ [q]) = List.zipWith g fs qs ++ [g f q]
  | [], qs, h => by simp at h
  | f0 :: r, [], h => by simp at h; subst h; simp
  | f0 :: r, q0 :: qs, h => by simp at h; simp [zip_snoc g h]
theorem zip_len {α : Type} (g : Fn → Nat → α) {fs : List Fn} {qs : List Nat} (h : qs.length ≤ fs.length) : (List.zipWith g fs qs).length = qs.length := by simp; omega
theorem set_end {α : Type} {l r : List α} {x z : α} {n : Nat} (h : n = l.length) : (l ++ z :: r).set n x = l ++ [x] ++ r := by
  subst h; simp
/-- a program laid anew -/
def Wrapped (fs : List Fn) (w : World) (v : Value) (w' : World) : Prop := ∃ pf qs C cc, v = .agg #[.slice (some ⟨pf, 0, none⟩) fs.length (fs.length + 1), .slice (some ⟨pf, 0, none⟩) (fs.length + 1) (fs.length + 1), .slice C fs.length cc] ∧ qs.length = fs.length ∧
  Hp nw w w' [cdk qs (fs.map spC), qu vals 1 22 C cc (zipV fs qs), bk pf 24 ((zipE fs qs ++ [markF]).flatMap FE.enc)]
theorem wrap_c (A : Option Addr) (l : List FE) (c : Nat) (w : World) (hA : RdP w A l) (hl : l.length ≤ 1048576) (hc : ∀ x ∈ l, x.1.code.length ≤ 1048576) :
    Cl Tryd.prog 29 #[pv A l.length c] w (Wrapped (fns l) w) (fun _ _ => False) := by
  have hfl := fns_len l
  have hw1 : IntKind.i64.wrap ((l.length : Int) + 1) = ((l.length + 1 : Nat) : Int) := w64 (by simp) (by omega) (by omega)
  refine calls_ex (args := [pv A l.length c]) T.ok Tryd.func29 rfl rfl rfl rfl ?_
  have H := Hp.begin nw w
  refine Sq.mk ?_
  ((conv => whnf); refine Al.hp H ?_; clear H; intro pp _ H _)
  ((conv => whnf); refine Al.hp H ?_; clear H; intro pr _ H _)
  repeat' ((conv => whnf); first | (((with_reducible show Gd _ _ _); first | with_reducible refine Gd.t ?_ | with_reducible refine Gd.f ?_ | with_reducible refine Gd.dec (fun _ => ?_) (fun _ => ?_) | with_reducible refine Gd.beq (fun _ => ?_) (fun _ => ?_) | with_reducible refine Gd.bne (fun _ => ?_) (fun _ => ?_) | with_reducible refine Gd.not ?_ | refine Gd.t ?_ | refine Gd.f ?_ | with_reducible refine Gd.var (fun _ => ?_) (fun _ => ?_)) <;> first | (exfalso; omega) | skip) | with_reducible refine Sq.mk ?_ | ((with_reducible show Ld1 _ _ _); first | refine Ld1.h H ?_ | refine Ld1.rF ?_ | refine Ld1.r ?_) | ((with_reducible show Ld _ _ _ _); first | refine Ld.h H ?_ | refine Ld.r ?_) | ((with_reducible show Ix _ _ _ _ _); (first | refine Ix.h ?_ | refine Ix.ha ?_)) | (refine St.h H ?_; clear H; intro _ H))
  ((conv => whnf); refine Al.hp H ?_; clear H; intro pg _ H _)
  repeat' ((conv => whnf); first | (((with_reducible show Gd _ _ _); first | with_reducible refine Gd.t ?_ | with_reducible refine Gd.f ?_ | with_reducible refine Gd.dec (fun _ => ?_) (fun _ => ?_) | with_reducible refine Gd.beq (fun _ => ?_) (fun _ => ?_) | with_reducible refine Gd.bne (fun _ => ?_) (fun _ => ?_) | with_reducible refine Gd.not ?_ | refine Gd.t ?_ | refine Gd.f ?_ | with_reducible refine Gd.var (fun _ => ?_) (fun _ => ?_)) <;> first | (exfalso; omega) | skip) | with_reducible refine Sq.mk ?_ | ((with_reducible show Ld1 _ _ _); first | refine Ld1.h H ?_ | refine Ld1.rF ?_ | refine Ld1.r ?_) | ((with_reducible show Ld _ _ _ _); first | refine Ld.h H ?_ | refine Ld.r ?_) | ((with_reducible show Ix _ _ _ _ _); (first | refine Ix.h ?_ | refine Ix.ha ?_)) | (refine Al.hp H ?_; clear H; intro _ _ H _) | (refine St.h H ?_; clear H; intro _ H))
  refine Sm.makeh (enc := FE.enc) (z := zF) (n := l.length + 1) H T.ok ?_ (by omega) (fun pf w2 H _ => ?_)
  · exact Nat.le_trans (Nat.mul_le_mul_left _ (show l.length + 1 ≤ 1048577 by omega)) (by decide)
  repeat' ((conv => whnf); first | (((with_reducible show Gd _ _ _); first | with_reducible refine Gd.t ?_ | with_reducible refine Gd.f ?_ | with_reducible refine Gd.dec (fun _ => ?_) (fun _ => ?_) | with_reducible refine Gd.beq (fun _ => ?_) (fun _ => ?_) | with_reducible refine Gd.bne (fun _ => ?_) (fun _ => ?_) | with_reducible refine Gd.not ?_ | refine Gd.t ?_ | refine Gd.f ?_ | with_reducible refine Gd.var (fun _ => ?_) (fun _ => ?_)) <;> first | (exfalso; omega) | skip) | with_reducible refine Sq.mk ?_ | ((with_reducible show Ld1 _ _ _); first | refine Ld1.h H ?_ | refine Ld1.rF ?_ | refine Ld1.r ?_) | ((with_reducible show Ld _ _ _ _); first | refine Ld.h H ?_ | refine Ld.r ?_) | ((with_reducible show Ix _ _ _ _ _); (first | refine Ix.h ?_ | refine Ix.ha ?_)) | (refine Al.hp H ?_; clear H; intro _ _ H _) | (refine St.h H ?_; clear H; intro _ H))
  replace H := H.fr0 (Hp.one (Tch.refl _ _) (cdk_ok (cdk_nil _)) (fun k hk => absurd hk (by simp))) (.inl rfl)
  replace H := H.nil vals 1 22
  refine Lp.g0 T.ok (σ := List Nat × Option Addr × Nat) (fun s => [(5, .int .i64 (s.1.length : Int)), (3, .int .i64 (l.length : Int)), (4, .pointer (some ⟨pg, 0, none⟩)), (1, .pointer (some ⟨pp, 0, none⟩)), (2, .pointer (some ⟨pr, 0, none⟩))])
    (fun s w' => s.1.length ≤ l.length ∧ Hp nw w w' [qu vals 1 22 s.2.1 s.2.2 (zipV (fns l) s.1), cdk s.1 (((fns l).take s.1.length).map spC), bk pf 24 ((zipE (fns l) s.1 ++ List.replicate (l.length + 1 - s.1.length) zF).flatMap FE.enc),
      bk pg 52 [.slice none 0 0, .slice (some ⟨pf, 0, none⟩) (l.length + 1) (l.length + 1), .slice s.2.1 s.1.length s.2.2], bk pr 52 T.t52.zero.cells.toList, bk pp 46 (pv A l.length c).cells.toList]) (fun s _ => l.length - s.1.length) ([], none, 0) rfl ⟨rfl, rfl, rfl, rfl, rfl, trivial⟩ ⟨Nat.zero_le _, by simp only [zipE, zipV, List.zipWith_nil_right]; exact H⟩ ?_
  clear H
  rintro ⟨qs, C, cc⟩ w5 ⟨hi, H⟩
  simp only at hi H ⊢
  have hzl : (zipE (fns l) qs).length = qs.length := zip_len lai (by omega)
  have hvl : (zipV (fns l) qs).length = qs.length := zip_len cdV (by omega)
  by_cases hlt : qs.length < l.length
  · obtain ⟨x, hx⟩ : ∃ x, l[qs.length]? = some x := ⟨_, List.getElem?_eq_getElem hlt⟩
    have hxm := List.mem_of_getElem? hx
    have hfx := fns_at hx
    have hA5 := RdS.from H.e hA.top
    have hcx := hc x hxm
    repeat' ((conv => whnf); first | (((with_reducible show Gd _ _ _); first | with_reducible refine Gd.t ?_ | with_reducible refine Gd.f ?_ | with_reducible refine Gd.dec (fun _ => ?_) (fun _ => ?_) | with_reducible refine Gd.beq (fun _ => ?_) (fun _ => ?_) | with_reducible refine Gd.bne (fun _ => ?_) (fun _ => ?_) | with_reducible refine Gd.not ?_ | refine Gd.t ?_ | refine Gd.f ?_ | with_reducible refine Gd.var (fun _ => ?_) (fun _ => ?_)) <;> first | (exfalso; omega) | skip) | with_reducible refine Sq.mk ?_ | ((with_reducible show Ld1 _ _ _); first | refine Ld1.h H ?_ | refine Ld1.rF ?_ | refine Ld1.r ?_) | ((with_reducible show Ld _ _ _ _); first | refine Ld.h H ?_ | refine Ld.r ?_) | ((with_reducible show Ix _ _ _ _ _); (first | refine Ix.h ?_ | refine Ix.ha ?_)) | (refine Al.hp H ?_; clear H; intro _ _ H _) | (refine St.h H ?_; clear H; intro _ H))
    clear hA5
    ((conv => whnf); refine Cl.mk (spare_c x.1 x.2.1 x.2.2 _ (RdS.from H.e (hA.code x hxm)) hcx) ?_)
    rintro _ w6 ⟨q, rfl, hqlo, hbq, e⟩
    replace H := H.fr0 (Hp.one (Tch.of_ext e) (bk_ok hbq) (fun k hk => .inr (by subst hk; exact hqlo))) (.inl rfl)
    clear hbq e hqlo
    repeat' ((conv => whnf); first | (((with_reducible show Gd _ _ _); first | with_reducible refine Gd.t ?_ | with_reducible refine Gd.f ?_ | with_reducible refine Gd.dec (fun _ => ?_) (fun _ => ?_) | with_reducible refine Gd.beq (fun _ => ?_) (fun _ => ?_) | with_reducible refine Gd.bne (fun _ => ?_) (fun _ => ?_) | with_reducible refine Gd.not ?_ | refine Gd.t ?_ | refine Gd.f ?_ | with_reducible refine Gd.var (fun _ => ?_) (fun _ => ?_)) <;> first | (exfalso; omega) | skip) | with_reducible refine Sq.mk ?_ | ((with_reducible show Ld1 _ _ _); first | refine Ld1.h H ?_ | refine Ld1.rF ?_ | refine Ld1.r ?_) | ((with_reducible show Ld _ _ _ _); first | refine Ld.h H ?_ | refine Ld.r ?_) | ((with_reducible show Ix _ _ _ _ _); (first | refine Ix.h ?_ | refine Ix.ha ?_)) | (refine St.h H ?_; clear H; intro _ H))
    ((conv => whnf); refine Al.hp H ?_; clear H; intro pt _ H _)
    repeat' ((conv => whnf); first | (((with_reducible show Gd _ _ _); first | with_reducible refine Gd.t ?_ | with_reducible refine Gd.f ?_ | with_reducible refine Gd.dec (fun _ => ?_) (fun _ => ?_) | with_reducible refine Gd.beq (fun _ => ?_) (fun _ => ?_) | with_reducible refine Gd.bne (fun _ => ?_) (fun _ => ?_) | with_reducible refine Gd.not ?_ | refine Gd.t ?_ | refine Gd.f ?_ | with_reducible refine Gd.var (fun _ => ?_) (fun _ => ?_)) <;> first | (exfalso; omega) | skip) | with_reducible refine Sq.mk ?_ | ((with_reducible show Ld1 _ _ _); first | refine Ld1.h H ?_ | refine Ld1.rF ?_ | refine Ld1.r ?_) | ((with_reducible show Ld _ _ _ _); first | refine Ld.h H ?_ | refine Ld.r ?_) | ((with_reducible show Ix _ _ _ _ _); (first | refine Ix.h ?_ | refine Ix.ha ?_)) | (refine Al.hp H ?_; clear H; intro _ _ H _) | (refine St.h H ?_; clear H; intro _ H))
    have hrp := H.rdb (enc := FE.enc) (sz := 4) 4 rfl (fun _ _ => rfl)
    have hrl : (zipE (fns l) qs ++ List.replicate (l.length + 1 - qs.length) zF).length = l.length + 1 := by simp [hzl]; omega
    repeat' ((conv => whnf); first | (((with_reducible show Gd _ _ _); first | with_reducible refine Gd.t ?_ | with_reducible refine Gd.f ?_ | with_reducible refine Gd.dec (fun _ => ?_) (fun _ => ?_) | with_reducible refine Gd.beq (fun _ => ?_) (fun _ => ?_) | with_reducible refine Gd.bne (fun _ => ?_) (fun _ => ?_) | with_reducible refine Gd.not ?_ | refine Gd.t ?_ | refine Gd.f ?_ | with_reducible refine Gd.var (fun _ => ?_) (fun _ => ?_)) <;> first | (exfalso; omega) | skip) | with_reducible refine Sq.mk ?_ | ((with_reducible show Ld1 _ _ _); first | refine Ld1.h H ?_ | refine Ld1.rF ?_ | refine Ld1.r ?_) | ((with_reducible show Ld _ _ _ _); first | refine Ld.h H ?_ | refine Ld.r ?_) | ((with_reducible show Ix _ _ _ _ _); (first | refine Ix.h ?_ | refine Ix.ha ?_)) | (refine Al.hp H ?_; clear H; intro _ _ H _) | (refine St.h H ?_; clear H; intro _ H))
    refine St.el (enc := FE.enc) (x := lai x.1 q) (j := qs.length) H (fun _ _ => rfl) rfl (by rw [hrl]; omega) rfl ?_
    clear H hrp
    rintro w7 H
    have hset : (zipE (fns l) qs ++ List.replicate (l.length + 1 - qs.length) zF).set qs.length (lai x.1 q) = zipE (fns l) (qs ++ [q]) ++ List.replicate (l.length + 1 - (qs ++ [q]).length) zF := by
      rw [show l.length + 1 - qs.length = (l.length + 1 - (qs ++ [q]).length) + 1 by simp; omega, List.replicate_succ, set_end hzl.symm, zipE, zipE, zip_snoc lai hfx]
    rw [hset] at H
    replace H := H.d0
    repeat' ((conv => whnf); first | (((with_reducible show Gd _ _ _); first | with_reducible refine Gd.t ?_ | with_reducible refine Gd.f ?_ | with_reducible refine Gd.dec (fun _ => ?_) (fun _ => ?_) | with_reducible refine Gd.beq (fun _ => ?_) (fun _ => ?_) | with_reducible refine Gd.bne (fun _ => ?_) (fun _ => ?_) | with_reducible refine Gd.not ?_ | refine Gd.t ?_ | refine Gd.f ?_ | with_reducible refine Gd.var (fun _ => ?_) (fun _ => ?_)) <;> first | (exfalso; omega) | skip) | with_reducible refine Sq.mk ?_ | ((with_reducible show Ld1 _ _ _); first | refine Ld1.h H ?_ | refine Ld1.rF ?_ | refine Ld1.r ?_) | ((with_reducible show Ld _ _ _ _); first | refine Ld.h H ?_ | refine Ld.r ?_) | ((with_reducible show Ix _ _ _ _ _); (first | refine Ix.h ?_ | refine Ix.ha ?_)) | (refine Al.hp H ?_; clear H; intro _ _ H _) | (refine St.h H ?_; clear H; intro _ H))
    refine Sm.lith (cs := [cdV x.1 q]) H T.ok (fun p8 w8 H _ => ?_)
    refine Sm.ap1 (enc := vals) (cdV x.1 q) H T.ok ?_ (by omega) (fun C' cc' w9 H => ?_) (hn := hvl.symm)
    · exact Nat.le_trans (Nat.mul_le_mul_right _ (show qs.length + 1 ≤ 1048577 by omega)) (by decide)
    have hz : zipV (fns l) qs ++ [cdV x.1 q] = zipV (fns l) (qs ++ [q]) := by rw [zipV, zipV, zip_snoc cdV hfx]
    rw [hz] at H
    simp only [List.cons_append, List.nil_append] at H
    repeat' ((conv => whnf); first | (((with_reducible show Gd _ _ _); first | with_reducible refine Gd.t ?_ | with_reducible refine Gd.f ?_ | with_reducible refine Gd.dec (fun _ => ?_) (fun _ => ?_) | with_reducible refine Gd.beq (fun _ => ?_) (fun _ => ?_) | with_reducible refine Gd.bne (fun _ => ?_) (fun _ => ?_) | with_reducible refine Gd.not ?_ | refine Gd.t ?_ | refine Gd.f ?_ | with_reducible refine Gd.var (fun _ => ?_) (fun _ => ?_)) <;> first | (exfalso; omega) | skip) | with_reducible refine Sq.mk ?_ | ((with_reducible show Ld1 _ _ _); first | refine Ld1.h H ?_ | refine Ld1.rF ?_ | refine Ld1.r ?_) | ((with_reducible show Ld _ _ _ _); first | refine Ld.h H ?_ | refine Ld.r ?_) | ((with_reducible show Ix _ _ _ _ _); (first | refine Ix.h ?_ | refine Ix.ha ?_)) | (refine Al.hp H ?_; clear H; intro _ _ H _) | (refine St.h H ?_; clear H; intro _ H))
    replace H := Hp.cdSnoc (H.sel [0, 1, 0, 0, 0, 0, 0] rfl)
    have htk : ((fns l).take qs.length).map spC ++ [spC x.1] = ((fns l).take (qs ++ [q]).length).map spC := by
      obtain ⟨h1, h2⟩ := List.getElem?_eq_some_iff.1 hfx
      rw [List.length_append, List.length_singleton, List.take_succ_eq_append_getElem h1, List.map_append, h2]; rfl
    have hql : (qs ++ [q]).length = qs.length + 1 := by simp
    replace H := H.sel [1, 0, 0, 0, 0, 0] rfl
    refine ⟨(qs ++ [q], C', cc'), ⟨at_int rfl (w64 (by simp) (by omega) (by simp; omega)), rfl, rfl, rfl, rfl, trivial⟩, rfl, ⟨by simp only [hql]; omega, ?_⟩, by simp only [hql]; omega⟩
    simp only
    rw [← htk, hql]
    rw [hql] at H
    exact H
  · have hq : qs.length = l.length := by omega
    have hrp := H.rdb (enc := FE.enc) (sz := 4) 2 rfl (fun _ _ => rfl)
    have hrl : (zipE (fns l) qs ++ List.replicate (l.length + 1 - qs.length) zF).length = l.length + 1 := by simp [hzl]; omega
    repeat' ((conv => whnf); first | (((with_reducible show Gd _ _ _); first | with_reducible refine Gd.t ?_ | with_reducible refine Gd.f ?_ | with_reducible refine Gd.dec (fun _ => ?_) (fun _ => ?_) | with_reducible refine Gd.beq (fun _ => ?_) (fun _ => ?_) | with_reducible refine Gd.bne (fun _ => ?_) (fun _ => ?_) | with_reducible refine Gd.not ?_ | refine Gd.t ?_ | refine Gd.f ?_ | with_reducible refine Gd.var (fun _ => ?_) (fun _ => ?_)) <;> first | (exfalso; omega) | skip) | with_reducible refine Sq.mk ?_ | ((with_reducible show Ld1 _ _ _); first | refine Ld1.h H ?_ | refine Ld1.rF ?_ | refine Ld1.r ?_) | ((with_reducible show Ld _ _ _ _); first | refine Ld.h H ?_ | refine Ld.r ?_) | ((with_reducible show Ix _ _ _ _ _); (first | refine Ix.h ?_ | refine Ix.ha ?_)) | (refine Al.hp H ?_; clear H; intro _ _ H _) | (refine St.h H ?_; clear H; intro _ H))
    refine St.el (enc := FE.enc) (x := markF) (j := l.length) H (fun _ _ => rfl) rfl (by rw [hrl]; omega) rfl ?_
    clear H hrp
    rintro w7 H
    have hset : (zipE (fns l) qs ++ List.replicate (l.length + 1 - qs.length) zF).set l.length markF = zipE (fns l) qs ++ [markF] := by
      rw [show l.length + 1 - qs.length = 0 + 1 by omega, List.replicate_succ, set_end (by omega)]; simp
    rw [hset] at H
    repeat' ((conv => whnf); first | (((with_reducible show Gd _ _ _); first | with_reducible refine Gd.t ?_ | with_reducible refine Gd.f ?_ | with_reducible refine Gd.dec (fun _ => ?_) (fun _ => ?_) | with_reducible refine Gd.beq (fun _ => ?_) (fun _ => ?_) | with_reducible refine Gd.bne (fun _ => ?_) (fun _ => ?_) | with_reducible refine Gd.not ?_ | refine Gd.t ?_ | refine Gd.f ?_ | with_reducible refine Gd.var (fun _ => ?_) (fun _ => ?_)) <;> first | (exfalso; omega) | skip) | with_reducible refine Sq.mk ?_ | ((with_reducible show Ld1 _ _ _); first | refine Ld1.h H ?_ | refine Ld1.rF ?_ | refine Ld1.r ?_) | ((with_reducible show Ld _ _ _ _); first | refine Ld.h H ?_ | refine Ld.r ?_) | ((with_reducible show Ix _ _ _ _ _); (first | refine Ix.h ?_ | refine Ix.ha ?_)) | (refine Al.hp H ?_; clear H; intro _ _ H _) | (refine St.h H ?_; clear H; intro _ H))
    refine Sm.cutHi T.ok rfl rfl rfl rfl rfl (by omega) ?_
    repeat' ((conv => whnf); first | (((with_reducible show Gd _ _ _); first | with_reducible refine Gd.t ?_ | with_reducible refine Gd.f ?_ | with_reducible refine Gd.dec (fun _ => ?_) (fun _ => ?_) | with_reducible refine Gd.beq (fun _ => ?_) (fun _ => ?_) | with_reducible refine Gd.bne (fun _ => ?_) (fun _ => ?_) | with_reducible refine Gd.not ?_ | refine Gd.t ?_ | refine Gd.f ?_ | with_reducible refine Gd.var (fun _ => ?_) (fun _ => ?_)) <;> first | (exfalso; omega) | skip) | with_reducible refine Sq.mk ?_ | ((with_reducible show Ld1 _ _ _); first | refine Ld1.h H ?_ | refine Ld1.rF ?_ | refine Ld1.r ?_) | ((with_reducible show Ld _ _ _ _); first | refine Ld.h H ?_ | refine Ld.r ?_) | ((with_reducible show Ix _ _ _ _ _); (first | refine Ix.h ?_ | refine Ix.ha ?_)) | (refine Al.hp H ?_; clear H; intro _ _ H _) | (refine St.h H ?_; clear H; intro _ H))
    refine ⟨pf, qs, C, cc, ?_, by omega, ?_⟩
    · rw [hfl, ← hq]; rfl
    · rw [hq, ← hfl, List.take_length] at H
      exact H.sel [1, 0, 0] rfl
end Go.Proofs.YtbbadmlekagloaaDoor
namespace Go.Proofs.YtbbadmlekagloaaDoor
open Go Go.Sh
set_option linter.unusedVariables false
set_option linter.unusedSimpArgs false
attribute [local irreducible] Blk Ext RdS
theorem zip_at {α : Type} (g : Fn → Nat → α) {fs : List Fn} {qs : List Nat} {i : Nat} {f : Fn} {q : Nat} (hf : fs[i]? = some f) (hq : qs[i]? = some q) : (List.zipWith g fs qs)[i]? = some (g f q) := by
  rw [List.getElem?_zipWith, hf, hq]
theorem fns_zip {fs : List Fn} {qs : List Nat} (h : qs.length = fs.length) : fns (zipE fs qs) = fs := by
  apply List.ext_getElem?
  intro i
  simp only [fns, zipE, List.getElem?_map, List.getElem?_zipWith]
  rcases hf : fs[i]? with _ | f
  · simp
  · obtain ⟨q, hq⟩ : ∃ q, qs[i]? = some q := ⟨_, List.getElem?_eq_getElem (by rw [h]; exact (List.getElem?_eq_some_iff.1 hf).1)⟩
    simp [hq, lai]
/-- a program laid anew reads as it should -/
theorem rdp_zip {fs : List Fn} {qs : List Nat} {pf : Nat} {w : World} {tl : List FE} (h : qs.length = fs.length) (hf : RdS FE.enc 4 w (some ⟨pf, 0, none⟩) (zipE fs qs ++ tl)) (hc : CodeBlks qs (fs.map spC) w) : RdP w (some ⟨pf, 0, none⟩) (zipE fs qs) := by
  refine ⟨?_, fun x hx => ?_⟩
  · have := RdS.take (k := (zipE fs qs).length) hf
    rw [List.take_left] at this
    exact this
  · obtain ⟨i, hi⟩ := List.getElem?_of_mem hx
    obtain ⟨g1, g2, g3⟩ := hc
    rw [zipE, List.getElem?_zipWith] at hi
    rcases hfi : fs[i]? with _ | f
    · rw [hfi] at hi; simp at hi
    rcases hqi : qs[i]? with _ | q
    · rw [hfi, hqi] at hi; simp at hi
    rw [hfi, hqi] at hi
    simp at hi
    subst hi
    exact rd_pre (g3 i q (spC f) hqi (by simp [hfi]))
theorem untouched_c (fs : List Fn) (pf : Nat) (qs : List Nat) (C : Option Addr) (cc : Nat) (A : Option Addr) (l : List FE) (c : Nat) (w : World) (hA : RdP w A l) (hfs : fns l = fs) (hl : l.length ≤ 1048576) (hc : ∀ x ∈ l, x.1.code.length ≤ 1048576) (hq : qs.length = fs.length)
    (hcd : CodeBlks qs (fs.map spC) w) (hV : RdS vals 1 w C (zipV fs qs)) (hpf : RdS FE.enc 4 w (some ⟨pf, 0, none⟩) (zipE fs qs ++ [markF])) :
    Cl Tryd.prog 31 #[.agg #[.slice (some ⟨pf, 0, none⟩) l.length (l.length + 1), .slice (some ⟨pf, 0, none⟩) (l.length + 1) (l.length + 1), .slice C l.length cc], pv A l.length c] w (fun v w' => v = .bool true ∧ Ext w w') (fun _ _ => False) := by
  have hfl := fns_len l
  subst hfs
  have hzl : (zipE (fns l) qs).length = l.length := by rw [zipE, zip_len lai (by omega)]; omega
  have hvl : (zipV (fns l) qs).length = l.length := by rw [zipV, zip_len cdV (by omega)]; omega
  have hZ := rdp_zip hq hpf hcd
  have hlm : (zipE (fns l) qs ++ [markF]).length = l.length + 1 := by simp [hzl]
  have hlast : (zipE (fns l) qs ++ [markF])[l.length]? = some markF := by
    rw [List.getElem?_append_right (by omega), hzl]; simp
  have hcz : ∀ x ∈ zipE (fns l) qs, x.1.code.length ≤ 1048576 := fun x hx => by
    have h1 : x.1 ∈ fns l := by rw [← fns_zip hq]; exact List.mem_map.2 ⟨x, hx, rfl⟩
    obtain ⟨y, hy, e⟩ := List.mem_map.1 h1
    rw [← e]; exact hc y hy
  refine calls_ex (args := [.agg #[.slice (some ⟨pf, 0, none⟩) l.length (l.length + 1), .slice (some ⟨pf, 0, none⟩) (l.length + 1) (l.length + 1), .slice C l.length cc], pv A l.length c]) T.ok Tryd.func31 rfl rfl rfl rfl ?_
  have H := Hp.begin nw w
  refine Sq.mk ?_
  ((conv => whnf); refine Al.hp H ?_; clear H; intro pg _ H _)
  ((conv => whnf); refine Al.hp H ?_; clear H; intro pp _ H _)
  repeat' ((conv => whnf); first | (((with_reducible show Gd _ _ _); first | with_reducible refine Gd.t ?_ | with_reducible refine Gd.f ?_ | with_reducible refine Gd.dec (fun _ => ?_) (fun _ => ?_) | with_reducible refine Gd.beq (fun _ => ?_) (fun _ => ?_) | with_reducible refine Gd.bne (fun _ => ?_) (fun _ => ?_) | with_reducible refine Gd.not ?_ | refine Gd.t ?_ | refine Gd.f ?_ | with_reducible refine Gd.var (fun _ => ?_) (fun _ => ?_)) <;> first | (exfalso; omega) | skip) | with_reducible refine Sq.mk ?_ | ((with_reducible show Ld1 _ _ _); first | refine Ld1.h H ?_ | refine Ld1.rF ?_ | refine Ld1.r ?_) | ((with_reducible show Ld _ _ _ _); first | refine Ld.h H ?_ | refine Ld.r ?_) | ((with_reducible show Ix _ _ _ _ _); (first | refine Ix.h ?_ | refine Ix.ha ?_)) | (refine Al.hp H ?_; clear H; intro _ _ H _) | (refine St.h H ?_; clear H; intro _ H))
  have hsame : ∀ w', Ext w w' → Cl Tryd.prog 46 #[pv (some ⟨pf, 0, none⟩) l.length (l.length + 1), pv A l.length c] w' (fun v w'' => v = .bool true ∧ Ext w' w'') (fun _ _ => False) := fun w' e => by
    have := same_c (some ⟨pf, 0, none⟩) A (zipE (fns l) qs) l (l.length + 1) c w' (hZ.ext e) (hA.ext e) (by omega) hcz
    rw [hzl, decide_eq_true (fns_zip hq)] at this
    exact this
  ((conv => whnf); refine Dr.quiet T.ok mixed (by kernel_rfl) (fun W hW => ?_))
  have e5 := H.e
  have hpf5 := RdS.from H.e hpf
  repeat' (first | ((conv => whnf); first | (((with_reducible show Gd _ _ _); first | with_reducible refine Gd.t ?_ | with_reducible refine Gd.f ?_ | with_reducible refine Gd.dec (fun _ => ?_) (fun _ => ?_) | with_reducible refine Gd.beq (fun _ => ?_) (fun _ => ?_) | with_reducible refine Gd.bne (fun _ => ?_) (fun _ => ?_) | with_reducible refine Gd.not ?_ | refine Gd.t ?_ | refine Gd.f ?_ | with_reducible refine Gd.var (fun _ => ?_) (fun _ => ?_)) <;> first | (exfalso; omega) | skip) | ((with_reducible show QLd1 _ _ _); first | refine QLd1.h hW H ?_ | refine QLd1.rF hW ?_ | refine QLd1.r hW ?_) | ((with_reducible show QLd _ _ _ _); first | refine QLd.h hW H ?_ | refine QLd.r hW ?_) | ((with_reducible show Ix _ _ _ _ _); (first | refine Ix.h ?_ | refine Ix.ha ?_))) | ((conv => whnf); refine QSm.cutHi (i := l.length) hW T.ok (by omega) ?_) | (exfalso; exact absurd (rfl : markF.1.params = -5) (by assumption)) | ((conv => whnf); refine QCl.mk hW (fun _ ee => Cl.mk (hsame _ (Ext.trans e5 ee)) (fun _ _ h => h)) ?_))
  clear hpf5
  (intro _ eT; replace H := H.ext eT; clear hW eT)
  repeat' ((conv => whnf); first | (((with_reducible show Gd _ _ _); first | with_reducible refine Gd.t ?_ | with_reducible refine Gd.f ?_ | with_reducible refine Gd.dec (fun _ => ?_) (fun _ => ?_) | with_reducible refine Gd.beq (fun _ => ?_) (fun _ => ?_) | with_reducible refine Gd.bne (fun _ => ?_) (fun _ => ?_) | with_reducible refine Gd.not ?_ | refine Gd.t ?_ | refine Gd.f ?_ | with_reducible refine Gd.var (fun _ => ?_) (fun _ => ?_)) <;> first | (exfalso; omega) | skip) | with_reducible refine Sq.mk ?_ | ((with_reducible show Ld1 _ _ _); first | refine Ld1.h H ?_ | refine Ld1.rF ?_ | refine Ld1.r ?_) | ((with_reducible show Ld _ _ _ _); first | refine Ld.h H ?_ | refine Ld.r ?_) | ((with_reducible show Ix _ _ _ _ _); (first | refine Ix.h ?_ | refine Ix.ha ?_)) | (refine Al.hp H ?_; clear H; intro _ _ H _) | (refine St.h H ?_; clear H; intro _ H))
  refine Lp.g0 T.ok (σ := Nat) (fun i => [(6, .int .i64 (i : Int)), (5, .int .i64 (l.length : Int)), (2, .pointer (some ⟨pg, 0, none⟩)), (3, .pointer (some ⟨pp, 0, none⟩))])
    (fun i w' => i ≤ l.length ∧ Hp nw w w' [bk pp 46 (pv A l.length c).cells.toList, bk pg 52 [.slice (some ⟨pf, 0, none⟩) l.length (l.length + 1), .slice (some ⟨pf, 0, none⟩) (l.length + 1) (l.length + 1), .slice C l.length cc]]) (fun i _ => l.length - i) 0 rfl ⟨rfl, rfl, rfl, rfl, trivial⟩ ⟨Nat.zero_le _, H⟩ ?_
  clear H e5
  rintro i w5 ⟨hi, H⟩
  by_cases hlt : i < l.length
  · obtain ⟨x, hx⟩ : ∃ x, l[i]? = some x := ⟨_, List.getElem?_eq_getElem hlt⟩
    obtain ⟨q, hqi⟩ : ∃ q, qs[i]? = some q := ⟨_, List.getElem?_eq_getElem (by omega)⟩
    have hfx := fns_at hx
    have hA5 := RdS.from H.e hA.top
    have hV5 := RdS.from H.e hV
    have hvi : (zipV (fns l) qs)[i]? = some (cdV x.1 q) := zip_at cdV hfx hqi
    have hcb := RdS.from H.e (rd_of_code (hcd.2.2 i q (spC x.1) hqi (by simp [hfx])))
    have hsl : (spC x.1).length = x.1.code.length + 2 := by simp [spC]
    have hs0 : (spC x.1)[x.1.code.length]? = some (oddI 0) := by simp [spC]
    have hs1 : (spC x.1)[x.1.code.length + 1]? = some (oddI 1) := by simp [spC]
    have hcx := hc x (List.mem_of_getElem? hx)
    have hw1 : IntKind.i64.wrap ((x.1.code.length : Int) + 1) = ((x.1.code.length + 1 : Nat) : Int) := w64 (by omega) (by omega) (by omega)
    repeat' ((conv => whnf); first | (((with_reducible show Gd _ _ _); first | with_reducible refine Gd.t ?_ | with_reducible refine Gd.f ?_ | with_reducible refine Gd.dec (fun _ => ?_) (fun _ => ?_) | with_reducible refine Gd.beq (fun _ => ?_) (fun _ => ?_) | with_reducible refine Gd.bne (fun _ => ?_) (fun _ => ?_) | with_reducible refine Gd.not ?_ | refine Gd.t ?_ | refine Gd.f ?_ | with_reducible refine Gd.var (fun _ => ?_) (fun _ => ?_)) <;> first | (exfalso; omega) | skip) | with_reducible refine Sq.mk ?_ | ((with_reducible show Ld1 _ _ _); first | refine Ld1.h H ?_ | refine Ld1.rF ?_ | refine Ld1.r ?_) | ((with_reducible show Ld _ _ _ _); first | refine Ld.h H ?_ | refine Ld.r ?_) | ((with_reducible show Ix _ _ _ _ _); (first | refine Ix.h ?_ | refine Ix.ha ?_)) | (refine Al.hp H ?_; clear H; intro _ _ H _) | (refine St.h H ?_; clear H; intro _ H))
    ((conv => whnf); refine Dr.quiet T.ok mixed (by kernel_rfl) (fun W hW => ?_))
    repeat' (first | ((conv => whnf); first | (((with_reducible show Gd _ _ _); first | with_reducible refine Gd.t ?_ | with_reducible refine Gd.f ?_ | with_reducible refine Gd.dec (fun _ => ?_) (fun _ => ?_) | with_reducible refine Gd.beq (fun _ => ?_) (fun _ => ?_) | with_reducible refine Gd.bne (fun _ => ?_) (fun _ => ?_) | with_reducible refine Gd.not ?_ | refine Gd.t ?_ | refine Gd.f ?_ | with_reducible refine Gd.var (fun _ => ?_) (fun _ => ?_)) <;> first | (exfalso; omega) | skip) | ((with_reducible show QLd1 _ _ _); first | refine QLd1.h hW H ?_ | refine QLd1.rF hW ?_ | refine QLd1.r hW ?_) | ((with_reducible show QLd _ _ _ _); first | refine QLd.h hW H ?_ | refine QLd.r hW ?_) | ((with_reducible show Ix _ _ _ _ _); (first | refine Ix.h ?_ | refine Ix.ha ?_))) | ((conv => whnf); refine QCl.mk hW (fun _ ee => Cl.mk (odd_c 0 _ (by decide)) (fun _ _ h => h)) ?_) | ((conv => whnf); refine QCl.mk hW (fun _ ee => Cl.mk (odd_c 1 _ (by decide)) (fun _ _ h => h)) ?_))
    clear hA5 hV5 hcb
    (intro _ eT; replace H := H.ext eT; clear hW eT)
    repeat' ((conv => whnf); first | (((with_reducible show Gd _ _ _); first | with_reducible refine Gd.t ?_ | with_reducible refine Gd.f ?_ | with_reducible refine Gd.dec (fun _ => ?_) (fun _ => ?_) | with_reducible refine Gd.beq (fun _ => ?_) (fun _ => ?_) | with_reducible refine Gd.bne (fun _ => ?_) (fun _ => ?_) | with_reducible refine Gd.not ?_ | refine Gd.t ?_ | refine Gd.f ?_ | with_reducible refine Gd.var (fun _ => ?_) (fun _ => ?_)) <;> first | (exfalso; omega) | skip) | with_reducible refine Sq.mk ?_ | ((with_reducible show Ld1 _ _ _); first | refine Ld1.h H ?_ | refine Ld1.rF ?_ | refine Ld1.r ?_) | ((with_reducible show Ld _ _ _ _); first | refine Ld.h H ?_ | refine Ld.r ?_) | ((with_reducible show Ix _ _ _ _ _); (first | refine Ix.h ?_ | refine Ix.ha ?_)) | (refine Al.hp H ?_; clear H; intro _ _ H _) | (refine St.h H ?_; clear H; intro _ H))
    exact ⟨i + 1, ⟨at_int (m := ((i + 1 : Nat) : Int)) rfl (w64 (by simp) (by omega) (by omega)), rfl, rfl, rfl, trivial⟩, rfl, ⟨by omega, H⟩, by omega⟩
  · repeat' ((conv => whnf); first | (((with_reducible show Gd _ _ _); first | with_reducible refine Gd.t ?_ | with_reducible refine Gd.f ?_ | with_reducible refine Gd.dec (fun _ => ?_) (fun _ => ?_) | with_reducible refine Gd.beq (fun _ => ?_) (fun _ => ?_) | with_reducible refine Gd.bne (fun _ => ?_) (fun _ => ?_) | with_reducible refine Gd.not ?_ | refine Gd.t ?_ | refine Gd.f ?_ | with_reducible refine Gd.var (fun _ => ?_) (fun _ => ?_)) <;> first | (exfalso; omega) | skip) | with_reducible refine Sq.mk ?_ | ((with_reducible show Ld1 _ _ _); first | refine Ld1.h H ?_ | refine Ld1.rF ?_ | refine Ld1.r ?_) | ((with_reducible show Ld _ _ _ _); first | refine Ld.h H ?_ | refine Ld.r ?_) | ((with_reducible show Ix _ _ _ _ _); (first | refine Ix.h ?_ | refine Ix.ha ?_)) | (refine Al.hp H ?_; clear H; intro _ _ H _) | (refine St.h H ?_; clear H; intro _ H))
    exact ⟨rfl, H.e⟩
end Go.Proofs.YtbbadmlekagloaaDoor
namespace Go.Proofs.YtbbadmlekagloaaDoor
open Go Go.Sh
set_option linter.unusedVariables false
set_option linter.unusedSimpArgs false
attribute [local irreducible] Blk Ext RdS
/-- lists of code that are written no more -/
abbrev rcs (l : List FE) : Ck := ⟨fun k => ∃ x ∈ l, x.1.code ≠ [] ∧ obk x.2.1 = some k, fun w => ∀ x ∈ l, RdC w x.2.1 x.1.code, false, false⟩
theorem rcs_ok {l : List FE} {w : World} (h : ∀ x ∈ l, RdC w x.2.1 x.1.code) : (rcs l).Ok w := by
  refine ⟨h, fun k hk => ?_, fun w' hs hb x hx => ?_⟩
  · obtain ⟨x, hx, h1, h2⟩ := hk
    exact RdS.lt (h x hx) h1 k h2
  · by_cases hl : x.1.code = []
    · rw [hl]; exact RdS.nil
    · exact RdS.keep (h x hx) hs fun b hb' _ => hb b ⟨x, hx, hl, hb'⟩
theorem Hp.rcSnoc {S : Nat → Prop} {w0 w : World} {Γ : List Ck} {x : FE} {l : List FE} (H : Hp S w0 w (rk Ins.enc 5 x.2.1 x.1.code :: rcs l :: Γ)) : Hp S w0 w (rcs (l ++ [x]) :: Γ) := by
  have hs := List.pairwise_cons.1 H.sep
  have hs2 := List.pairwise_cons.1 hs.2
  have h1 := (H.ok _ (List.mem_cons_self ..)).holds
  have h2 := (H.ok _ (List.mem_cons_of_mem _ (List.mem_cons_self ..))).holds
  have hfp : ∀ k, (rcs (l ++ [x])).fp k → (rk Ins.enc 5 x.2.1 x.1.code).fp k ∨ (rcs l).fp k := fun k ⟨y, hy, q1, q2⟩ => by
    rcases List.mem_append.1 hy with h | h
    · exact .inr ⟨y, h, q1, q2⟩
    · simp at h; subst h; exact .inl ⟨q1, q2⟩
  refine ⟨H.tch, fun b hb => ?_, List.pairwise_cons.2 ⟨fun b hb h k hk => ?_, hs2.2⟩, fun b hb hb' k hk => ?_⟩
  · rcases List.mem_cons.1 hb with rfl | hb
    · refine rcs_ok fun y hy => ?_
      rcases List.mem_append.1 hy with h | h
      · exact h2 y h
      · simp at h; subst h; exact h1
    · exact H.ok b (by simp [hb])
  · rcases hfp k hk.1 with h' | h'
    · exact hs.1 b (by simp [hb]) h k ⟨h', hk.2⟩
    · exact hs2.1 b hb h k ⟨h', hk.2⟩
  · rcases List.mem_cons.1 hb with rfl | hb
    · rcases hfp k hk with h | h
      · exact H.dom _ (List.mem_cons_self ..) (.inr rfl) k h
      · exact H.dom _ (List.mem_cons_of_mem _ (List.mem_cons_self ..)) (.inr rfl) k h
    · exact H.dom b (by simp [hb]) hb' k hk
def TurnedAll (l : List FE) (w : World) (v : Value) (w' : World) : Prop := ∃ C d l', v = pv C l'.length d ∧ fns l' = (fns l).map turnedF ∧ Hp nw w w' [rcs l', qu FE.enc 4 24 C d l']
theorem turnedAll_c (A : Option Addr) (l : List FE) (c : Nat) (w : World) (hA : RdP w A l) (hl : l.length ≤ 1048576) (hc : ∀ x ∈ l, x.1.code.length ≤ 1048576) :
    Cl Tryd.prog 68 #[pv A l.length c] w (TurnedAll l w) (fun _ _ => False) := by
  refine calls_ex (args := [pv A l.length c]) T.ok Tryd.func68 rfl rfl rfl rfl ?_
  have H := Hp.begin nw w
  refine Sq.mk ?_
  ((conv => whnf); refine Al.hp H ?_; clear H; intro pp _ H _)
  ((conv => whnf); refine Al.hp H ?_; clear H; intro pr _ H _)
  repeat' ((conv => whnf); first | (((with_reducible show Gd _ _ _); first | with_reducible refine Gd.t ?_ | with_reducible refine Gd.f ?_ | with_reducible refine Gd.dec (fun _ => ?_) (fun _ => ?_) | with_reducible refine Gd.beq (fun _ => ?_) (fun _ => ?_) | with_reducible refine Gd.bne (fun _ => ?_) (fun _ => ?_) | with_reducible refine Gd.not ?_ | refine Gd.t ?_ | refine Gd.f ?_ | with_reducible refine Gd.var (fun _ => ?_) (fun _ => ?_)) <;> first | (exfalso; omega) | skip) | with_reducible refine Sq.mk ?_ | ((with_reducible show Ld1 _ _ _); first | refine Ld1.h H ?_ | refine Ld1.rF ?_ | refine Ld1.r ?_) | ((with_reducible show Ld _ _ _ _); first | refine Ld.h H ?_ | refine Ld.r ?_) | ((with_reducible show Ix _ _ _ _ _); (first | refine Ix.h ?_ | refine Ix.ha ?_)) | (refine St.h H ?_; clear H; intro _ H))
  ((conv => whnf); refine Al.hp H ?_; clear H; intro pq _ H _)
  repeat' ((conv => whnf); first | (((with_reducible show Gd _ _ _); first | with_reducible refine Gd.t ?_ | with_reducible refine Gd.f ?_ | with_reducible refine Gd.dec (fun _ => ?_) (fun _ => ?_) | with_reducible refine Gd.beq (fun _ => ?_) (fun _ => ?_) | with_reducible refine Gd.bne (fun _ => ?_) (fun _ => ?_) | with_reducible refine Gd.not ?_ | refine Gd.t ?_ | refine Gd.f ?_ | with_reducible refine Gd.var (fun _ => ?_) (fun _ => ?_)) <;> first | (exfalso; omega) | skip) | with_reducible refine Sq.mk ?_ | ((with_reducible show Ld1 _ _ _); first | refine Ld1.h H ?_ | refine Ld1.rF ?_ | refine Ld1.r ?_) | ((with_reducible show Ld _ _ _ _); first | refine Ld.h H ?_ | refine Ld.r ?_) | ((with_reducible show Ix _ _ _ _ _); (first | refine Ix.h ?_ | refine Ix.ha ?_)) | (refine Al.hp H ?_; clear H; intro _ _ H _) | (refine St.h H ?_; clear H; intro _ H))
  replace H := H.nil FE.enc 4 24
  replace H := H.fr0 (Hp.one (Tch.refl _ _) (rcs_ok (l := []) (by simp)) (fun k hk => by obtain ⟨x, hx, _⟩ := hk; simp at hx)) (.inr rfl)
  refine Lp.g0 T.ok (σ := Nat × List FE × Option Addr × Nat) (fun s => [(4, .int .i64 (s.1 : Int)), (1, .pointer (some ⟨pp, 0, none⟩)), (2, .pointer (some ⟨pr, 0, none⟩)), (3, .pointer (some ⟨pq, 0, none⟩))])
    (fun s w' => s.1 ≤ l.length ∧ s.2.1.length = s.1 ∧ fns s.2.1 = ((fns l).take s.1).map turnedF ∧ Hp nw w w' [rcs s.2.1, qu FE.enc 4 24 s.2.2.1 s.2.2.2 s.2.1, bk pq 46 [.slice s.2.2.1 s.1 s.2.2.2], bk pr 46 T.t46.zero.cells.toList, bk pp 46 (pv A l.length c).cells.toList]) (fun s _ => l.length - s.1) (0, [], none, 0) rfl ⟨rfl, rfl, rfl, rfl, trivial⟩ ⟨Nat.zero_le _, rfl, rfl, H⟩ ?_
  clear H
  rintro ⟨i, l', C, d⟩ w5 ⟨hi, hli, hfn, H⟩
  simp only at hi hli hfn H ⊢
  by_cases hlt : i < l.length
  · obtain ⟨x, hx⟩ : ∃ x, l[i]? = some x := ⟨_, List.getElem?_eq_getElem hlt⟩
    have hxm := List.mem_of_getElem? hx
    have hA5 := RdS.from H.e hA.top
    have hcx := hc x hxm
    repeat' ((conv => whnf); first | (((with_reducible show Gd _ _ _); first | with_reducible refine Gd.t ?_ | with_reducible refine Gd.f ?_ | with_reducible refine Gd.dec (fun _ => ?_) (fun _ => ?_) | with_reducible refine Gd.beq (fun _ => ?_) (fun _ => ?_) | with_reducible refine Gd.bne (fun _ => ?_) (fun _ => ?_) | with_reducible refine Gd.not ?_ | refine Gd.t ?_ | refine Gd.f ?_ | with_reducible refine Gd.var (fun _ => ?_) (fun _ => ?_)) <;> first | (exfalso; omega) | skip) | with_reducible refine Sq.mk ?_ | ((with_reducible show Ld1 _ _ _); first | refine Ld1.h H ?_ | refine Ld1.rF ?_ | refine Ld1.r ?_) | ((with_reducible show Ld _ _ _ _); first | refine Ld.h H ?_ | refine Ld.r ?_) | ((with_reducible show Ix _ _ _ _ _); (first | refine Ix.h ?_ | refine Ix.ha ?_)) | (refine Al.hp H ?_; clear H; intro _ _ H _) | (refine St.h H ?_; clear H; intro _ H))
    clear hA5
    ((conv => whnf); refine Cl.mk (turned_c x.1 x.2.1 x.2.2 _ (RdS.from H.e (hA.code x hxm)) hcx) ?_)
    rintro _ w6 ⟨D, dc, rfl, hD, e, hfr, _⟩
    replace H := H.fr0 (rk_new hD e hfr) (.inr rfl)
    clear hD e hfr
    ((conv => whnf); refine Al.hp H ?_; clear H; intro pt _ H _)
    repeat' ((conv => whnf); first | (((with_reducible show Gd _ _ _); first | with_reducible refine Gd.t ?_ | with_reducible refine Gd.f ?_ | with_reducible refine Gd.dec (fun _ => ?_) (fun _ => ?_) | with_reducible refine Gd.beq (fun _ => ?_) (fun _ => ?_) | with_reducible refine Gd.bne (fun _ => ?_) (fun _ => ?_) | with_reducible refine Gd.not ?_ | refine Gd.t ?_ | refine Gd.f ?_ | with_reducible refine Gd.var (fun _ => ?_) (fun _ => ?_)) <;> first | (exfalso; omega) | skip) | with_reducible refine Sq.mk ?_ | ((with_reducible show Ld1 _ _ _); first | refine Ld1.h H ?_ | refine Ld1.rF ?_ | refine Ld1.r ?_) | ((with_reducible show Ld _ _ _ _); first | refine Ld.h H ?_ | refine Ld.r ?_) | ((with_reducible show Ix _ _ _ _ _); (first | refine Ix.h ?_ | refine Ix.ha ?_)) | (refine Al.hp H ?_; clear H; intro _ _ H _) | (refine St.h H ?_; clear H; intro _ H))
    refine Sm.lith (cs := FE.enc (turnedF x.1, D, dc)) H T.ok (fun p8 w8 H _ => ?_)
    refine Sm.ap1 (enc := FE.enc) ((turnedF x.1, D, dc) : FE) H T.ok ?_ (by omega) (fun C' d' w9 H => ?_) (hn := hli.symm)
    · exact Nat.le_trans (Nat.mul_le_mul_right _ (show i + 1 ≤ 1048577 by omega)) (by decide)
    simp only [List.cons_append, List.nil_append] at H
    repeat' ((conv => whnf); first | (((with_reducible show Gd _ _ _); first | with_reducible refine Gd.t ?_ | with_reducible refine Gd.f ?_ | with_reducible refine Gd.dec (fun _ => ?_) (fun _ => ?_) | with_reducible refine Gd.beq (fun _ => ?_) (fun _ => ?_) | with_reducible refine Gd.bne (fun _ => ?_) (fun _ => ?_) | with_reducible refine Gd.not ?_ | refine Gd.t ?_ | refine Gd.f ?_ | with_reducible refine Gd.var (fun _ => ?_) (fun _ => ?_)) <;> first | (exfalso; omega) | skip) | with_reducible refine Sq.mk ?_ | ((with_reducible show Ld1 _ _ _); first | refine Ld1.h H ?_ | refine Ld1.rF ?_ | refine Ld1.r ?_) | ((with_reducible show Ld _ _ _ _); first | refine Ld.h H ?_ | refine Ld.r ?_) | ((with_reducible show Ix _ _ _ _ _); (first | refine Ix.h ?_ | refine Ix.ha ?_)) | (refine Al.hp H ?_; clear H; intro _ _ H _) | (refine St.h H ?_; clear H; intro _ H))
    replace H := Hp.rcSnoc (x := (turnedF x.1, D, dc)) (H.sel [1, 1, 1, 1, 1, 1] rfl)
    refine ⟨(i + 1, l' ++ [(turnedF x.1, D, dc)], C', d'), ⟨at_int (m := ((i + 1 : Nat) : Int)) rfl (w64 (by simp) (by omega) (by omega)), rfl, rfl, rfl, trivial⟩, rfl, ⟨by simp only; omega, by simp [hli], ?_, H⟩, by simp only; omega⟩
    obtain ⟨h1, h2⟩ := List.getElem?_eq_some_iff.1 (fns_at hx)
    simp only
    rw [List.take_succ_eq_append_getElem h1, List.map_append, ← hfn, h2]
    simp [fns]
  · have hi : i = l.length := by omega
    subst hi
    rw [← fns_len, List.take_length] at hfn
    repeat' ((conv => whnf); first | (((with_reducible show Gd _ _ _); first | with_reducible refine Gd.t ?_ | with_reducible refine Gd.f ?_ | with_reducible refine Gd.dec (fun _ => ?_) (fun _ => ?_) | with_reducible refine Gd.beq (fun _ => ?_) (fun _ => ?_) | with_reducible refine Gd.bne (fun _ => ?_) (fun _ => ?_) | with_reducible refine Gd.not ?_ | refine Gd.t ?_ | refine Gd.f ?_ | with_reducible refine Gd.var (fun _ => ?_) (fun _ => ?_)) <;> first | (exfalso; omega) | skip) | with_reducible refine Sq.mk ?_ | ((with_reducible show Ld1 _ _ _); first | refine Ld1.h H ?_ | refine Ld1.rF ?_ | refine Ld1.r ?_) | ((with_reducible show Ld _ _ _ _); first | refine Ld.h H ?_ | refine Ld.r ?_) | ((with_reducible show Ix _ _ _ _ _); (first | refine Ix.h ?_ | refine Ix.ha ?_)) | (refine Al.hp H ?_; clear H; intro _ _ H _) | (refine St.h H ?_; clear H; intro _ H))
    exact ⟨C, d, l', by rw [hli]; rfl, hfn, H.sel [0, 0] rfl⟩
end Go.Proofs.YtbbadmlekagloaaDoor
namespace Go.Proofs.YtbbadmlekagloaaDoor
open Go Go.Sh
set_option linter.unusedVariables false
set_option linter.unusedSimpArgs false
attribute [local irreducible] Blk Ext RdS
/-- a piece of the caller's memory that is read alone -/
theorem Hp.addOld {S : Nat → Prop} {w : World} {Γ : List Ck} {c : Ck} (H : Hp S w w Γ) (h : c.Ok w) (ho : c.own = false) (hold : c.old = true) (hd : ∀ a ∈ Γ, ∀ k, ¬ (c.fp k ∧ a.fp k)) : Hp S w w (c :: Γ) :=
  ⟨H.tch, fun b hb => by rcases List.mem_cons.1 hb with rfl | hb; exact h; exact H.ok b hb, List.pairwise_cons.2 ⟨fun a ha _ k => hd a ha k, H.sep⟩, fun b hb hn k hk => by
    rcases List.mem_cons.1 hb with rfl | hb
    · rcases hn with h | h
      · rw [ho] at h; simp at h
      · rw [hold] at h; simp at h
    · exact H.dom b hb hn k hk⟩
abbrev rko {α : Type} (enc : α → List Value) (sz : Nat) (A : Option Addr) (l : List α) : Ck := ⟨fun k => l ≠ [] ∧ obk A = some k, fun w => RdS enc sz w A l, false, true⟩
theorem rko_ok {α : Type} {enc : α → List Value} {sz : Nat} {A : Option Addr} {l : List α} {w : World} (h : RdS enc sz w A l) : (rko enc sz A l).Ok w := ⟨(rk_ok h).holds, (rk_ok h).lt, (rk_ok h).loc⟩
/-- the codes when those ahead of i are laid, and of i the places ahead of k -/
def layC (fs ts : List Fn) (i k : Nat) : List (List Ins) := (List.range fs.length).map fun j => match fs[j]?, ts[j]? with
  | some f, some t => if j < i then spC f else if j = i then f.code.take k ++ t.code.drop k ++ [oddI 0, oddI 1] else spC t
  | _, _ => []
theorem layC_len (fs ts : List Fn) (i k : Nat) : (layC fs ts i k).length = fs.length := by simp [layC]
theorem layC_at {fs ts : List Fn} {i k : Nat} {f t : Fn} (hf : fs[i]? = some f) (ht : ts[i]? = some t) : (layC fs ts i k)[i]? = some (f.code.take k ++ t.code.drop k ++ [oddI 0, oddI 1]) := by
  have := (List.getElem?_eq_some_iff.1 hf).1
  simp only [layC, List.getElem?_map, List.getElem?_range this, Option.map_some, hf, ht]
  simp
theorem layC_set {fs ts : List Fn} {i k : Nat} {f t : Fn} {x : Ins} (hf : fs[i]? = some f) (ht : ts[i]? = some t) (hl : t.code.length = f.code.length) (hx : f.code[k]? = some x) : (layC fs ts i k).set i ((f.code.take k ++ t.code.drop k ++ [oddI 0, oddI 1]).set k x) = layC fs ts i (k + 1) := by
  rw [lay_set hl hx]
  apply List.ext_getElem?
  intro j
  by_cases e : j = i
  · subst e
    have hlt := (List.getElem?_eq_some_iff.1 hf).1
    rw [List.getElem?_set_self (by rw [layC_len]; exact hlt), layC_at hf ht]
  · rw [List.getElem?_set_ne (fun h => e h.symm)]
    simp only [layC, List.getElem?_map]
    rcases hr : (List.range fs.length)[j]? with _ | j'
    · rfl
    · have : j' = j := by have := List.getElem?_range (n := fs.length) (i := j) (by have := (List.getElem?_eq_some_iff.1 hr).1; simpa using this); rw [hr] at this; simpa using this
      subst this
      simp [e]
theorem layC_next {fs ts : List Fn} {i : Nat} {f t : Fn} (hf : fs[i]? = some f) (ht : ts[i]? = some t) (hl : t.code.length = f.code.length) : layC fs ts i f.code.length = layC fs ts (i + 1) 0 := by
  apply List.ext_getElem?
  intro j
  simp only [layC, List.getElem?_map]
  rcases hr : (List.range fs.length)[j]? with _ | j'
  · rfl
  · have : j' = j := by have := List.getElem?_range (n := fs.length) (i := j) (by have := (List.getElem?_eq_some_iff.1 hr).1; simpa using this); rw [hr] at this; simpa using this
    subst this
    simp only [Option.map_some]
    congr 1
    rcases Nat.lt_trichotomy j' i with h | h | h
    · rcases fs[j']? with _ | g <;> rcases ts[j']? with _ | u <;> simp [h, show j' < i + 1 by omega]
    · subst h; rw [hf, ht]
      simp only [Nat.lt_irrefl, if_false, if_true, show j' < j' + 1 by omega]
      rw [List.take_length, List.drop_of_length_le (by omega), List.append_nil]; rfl
    · rcases fs[j']? with _ | g <;> rcases ts[j']? with _ | u <;> try rfl
      simp only [show ¬ j' < i by omega, show ¬ j' = i by omega, show ¬ j' < i + 1 by omega, if_false]
      by_cases e : j' = i + 1
      · simp [e, spC]
      · simp [e]
theorem layC_begin {fs ts : List Fn} (h : ts.length = fs.length) : layC fs ts 0 0 = ts.map spC := by
  apply List.ext_getElem?
  intro j
  simp only [layC, List.getElem?_map]
  by_cases hj : j < fs.length
  · obtain ⟨f, hf⟩ : ∃ f, fs[j]? = some f := ⟨_, List.getElem?_eq_getElem hj⟩
    obtain ⟨t, ht⟩ : ∃ t, ts[j]? = some t := ⟨_, List.getElem?_eq_getElem (by omega)⟩
    rw [List.getElem?_range hj]
    simp only [Option.map_some, hf, ht]
    by_cases e : j = 0
    · subst e; simp [spC]
    · simp [e]
  · rw [List.getElem?_eq_none (by simp; omega), List.getElem?_eq_none (by omega)]; rfl
theorem layC_end {fs ts : List Fn} (h : ts.length = fs.length) : layC fs ts fs.length 0 = fs.map spC := by
  apply List.ext_getElem?
  intro j
  simp only [layC, List.getElem?_map]
  by_cases hj : j < fs.length
  · obtain ⟨f, hf⟩ : ∃ f, fs[j]? = some f := ⟨_, List.getElem?_eq_getElem hj⟩
    obtain ⟨t, ht⟩ : ∃ t, ts[j]? = some t := ⟨_, List.getElem?_eq_getElem (by omega)⟩
    rw [List.getElem?_range hj]
    simp only [Option.map_some, hf, ht, hj, if_true]
  · rw [List.getElem?_eq_none (by simp; omega), List.getElem?_eq_none (by omega)]; rfl
theorem lay_c (fs ts : List Fn) (pf c2 : Nat) (qs : List Nat) (A : Option Addr) (l : List FE) (c : Nat) (wb w : World) (hb : Ext wb w) (hA : RdP wb A l) (hfs : fns l = fs) (htl : ts.length = fs.length) (htc : ∀ (i : Nat) (f t : Fn), fs[i]? = some f → ts[i]? = some t → t.code.length = f.code.length)
    (hl : l.length ≤ 1048576) (hc : ∀ x ∈ l, x.1.code.length ≤ 1048576) (hq : qs.length = fs.length) (hql : ∀ q ∈ qs, wb.heap.size ≤ q) (hcd : CodeBlks qs (ts.map spC) w) (hpf : RdS FE.enc 4 w (some ⟨pf, 0, none⟩) (zipE ts qs)) (hne : pf ∉ qs) :
    Cl Tryd.prog 69 #[pv (some ⟨pf, 0, none⟩) l.length c2, pv A l.length c] w (fun _ w' => Hp (fun k => k ∈ qs) w w' [cdk qs (fs.map spC)]) (fun _ _ => False) := by
  have hfl := fns_len l
  subst hfs
  have hzl : (zipE ts qs).length = l.length := by rw [zipE, zip_len lai (by omega)]; omega
  refine calls_ex (args := [pv (some ⟨pf, 0, none⟩) l.length c2, pv A l.length c]) T.ok Tryd.func69 rfl rfl rfl rfl ?_
  have HB : BaseOk (fun k => k ∈ qs) wb w := ⟨hb, hql⟩
  have H := Hp.addOld (Hp.start (S := fun k => k ∈ qs) (cdk_ok hcd) (fun k hk => hk)) (rko_ok hpf) rfl rfl (fun a ha k ⟨h1, h2⟩ => by
    simp at ha; subst ha
    have : pf = k := by have := h1.2; simpa [obk] using this
    exact hne (this ▸ h2))
  rw [← layC_begin (by omega : ts.length = (fns l).length)] at H
  refine Sq.mk ?_
  ((conv => whnf); refine Al.hp H ?_; clear H; intro pp _ H _)
  ((conv => whnf); refine Al.hp H ?_; clear H; intro pq _ H _)
  repeat' ((conv => whnf); first | (((with_reducible show Gd _ _ _); first | with_reducible refine Gd.t ?_ | with_reducible refine Gd.f ?_ | with_reducible refine Gd.dec (fun _ => ?_) (fun _ => ?_) | with_reducible refine Gd.beq (fun _ => ?_) (fun _ => ?_) | with_reducible refine Gd.bne (fun _ => ?_) (fun _ => ?_) | with_reducible refine Gd.not ?_ | refine Gd.t ?_ | refine Gd.f ?_ | with_reducible refine Gd.var (fun _ => ?_) (fun _ => ?_)) <;> first | (exfalso; omega) | skip) | with_reducible refine Sq.mk ?_ | ((with_reducible show Ld1 _ _ _); first | refine Ld1.h H ?_ | refine Ld1.rF ?_ | refine Ld1.r ?_) | ((with_reducible show Ld _ _ _ _); first | refine Ld.h H ?_ | refine Ld.r ?_) | ((with_reducible show Ix _ _ _ _ _); (first | refine Ix.h ?_ | refine Ix.ha ?_)) | (refine Al.hp H ?_; clear H; intro _ _ H _) | (refine St.h H ?_; clear H; intro _ H))
  refine Lp.g0 T.ok (σ := Nat) (fun i => [(4, .int .i64 (i : Int)), (2, .pointer (some ⟨pp, 0, none⟩)), (3, .pointer (some ⟨pq, 0, none⟩))])
    (fun i w' => i ≤ l.length ∧ Hp (fun k => k ∈ qs) w w' [bk pq 46 (pv A l.length c).cells.toList, bk pp 46 (pv (some ⟨pf, 0, none⟩) l.length c2).cells.toList, rko FE.enc 4 (some ⟨pf, 0, none⟩) (zipE ts qs), cdk qs (layC (fns l) ts i 0)]) (fun i _ => l.length - i) 0 rfl ⟨rfl, rfl, rfl, trivial⟩ ⟨Nat.zero_le _, H⟩ ?_
  clear H
  rintro i w5 ⟨hi, H⟩
  by_cases hlt : i < l.length
  · obtain ⟨x, hx⟩ : ∃ x, l[i]? = some x := ⟨_, List.getElem?_eq_getElem hlt⟩
    obtain ⟨q, hqi⟩ : ∃ q, qs[i]? = some q := ⟨_, List.getElem?_eq_getElem (by omega)⟩
    obtain ⟨t, hti⟩ : ∃ t, ts[i]? = some t := ⟨_, List.getElem?_eq_getElem (by omega)⟩
    have hxm := List.mem_of_getElem? hx
    have hfx := fns_at hx
    have htl2 := htc i x.1 t hfx hti
    have hzi : (zipE ts qs)[i]? = some (lai t q) := zip_at lai hti hqi
    have hcx := hc x hxm
    repeat' ((conv => whnf); first | (((with_reducible show Gd _ _ _); first | with_reducible refine Gd.t ?_ | with_reducible refine Gd.f ?_ | with_reducible refine Gd.dec (fun _ => ?_) (fun _ => ?_) | with_reducible refine Gd.beq (fun _ => ?_) (fun _ => ?_) | with_reducible refine Gd.bne (fun _ => ?_) (fun _ => ?_) | with_reducible refine Gd.not ?_ | refine Gd.t ?_ | refine Gd.f ?_ | with_reducible refine Gd.var (fun _ => ?_) (fun _ => ?_)) <;> first | (exfalso; omega) | skip) | with_reducible refine Sq.mk ?_ | ((with_reducible show Ld1 _ _ _); first | refine Ld1.h H ?_ | refine Ld1.rF ?_ | refine Ld1.r ?_) | ((with_reducible show Ld _ _ _ _); first | refine Ld.h H ?_ | refine Ld.r ?_) | ((with_reducible show Ix _ _ _ _ _); (first | refine Ix.h ?_ | refine Ix.ha ?_)) | (refine Al.hp H ?_; clear H; intro _ _ H _) | (refine St.h H ?_; clear H; intro _ H))
    refine Lp.g0 T.ok (σ := Nat) (fun k => [(5, .int .i64 (k : Int)), (4, .int .i64 (i : Int)), (2, .pointer (some ⟨pp, 0, none⟩)), (3, .pointer (some ⟨pq, 0, none⟩))])
      (fun k w' => k ≤ x.1.code.length ∧ Hp (fun k => k ∈ qs) w w' [bk pq 46 (pv A l.length c).cells.toList, bk pp 46 (pv (some ⟨pf, 0, none⟩) l.length c2).cells.toList, rko FE.enc 4 (some ⟨pf, 0, none⟩) (zipE ts qs), cdk qs (layC (fns l) ts i k)]) (fun k _ => x.1.code.length - k) 0 rfl ⟨rfl, rfl, rfl, rfl, trivial⟩ ⟨Nat.zero_le _, H⟩ ?_
    clear H
    rintro k w6 ⟨hk, H⟩
    have hAt := RdS.from (H.base2 HB) hA.top
    by_cases hkl : k < x.1.code.length
    · obtain ⟨y, hy⟩ : ∃ y, x.1.code[k]? = some y := ⟨_, List.getElem?_eq_getElem hkl⟩
      have hxc := RdS.from (H.base2 HB) (hA.code x hxm)
      have hzr : RdS FE.enc 4 w6 (some ⟨pf, 0, none⟩) (zipE ts qs) := H.atC 2 rfl
      have hcb : CodeBlks qs (layC (fns l) ts i k) w6 := H.atC 3 rfl
      have hqr := rd_pre (hcb.2.2 i q _ hqi (layC_at hfx hti))
      have hql2 : (x.1.code.take k ++ t.code.drop k ++ [oddI 0, oddI 1]).length = x.1.code.length + 2 := by simp; omega
      have hlaiv : (lai t q).1.code.length = x.1.code.length := htl2
      have hql3 : (x.1.code.take k ++ t.code.drop k).length = (lai t q).1.code.length := by simp [lai]; omega
      repeat' ((conv => whnf); first | (((with_reducible show Gd _ _ _); first | with_reducible refine Gd.t ?_ | with_reducible refine Gd.f ?_ | with_reducible refine Gd.dec (fun _ => ?_) (fun _ => ?_) | with_reducible refine Gd.beq (fun _ => ?_) (fun _ => ?_) | with_reducible refine Gd.bne (fun _ => ?_) (fun _ => ?_) | with_reducible refine Gd.not ?_ | refine Gd.t ?_ | refine Gd.f ?_ | with_reducible refine Gd.var (fun _ => ?_) (fun _ => ?_)) <;> first | (exfalso; omega) | skip) | with_reducible refine Sq.mk ?_ | ((with_reducible show Ld1 _ _ _); first | refine Ld1.h H ?_ | refine Ld1.rF ?_ | refine Ld1.r ?_) | ((with_reducible show Ld _ _ _ _); first | refine Ld.h H ?_ | refine Ld.r ?_) | ((with_reducible show Ix _ _ _ _ _); (first | refine Ix.h ?_ | refine Ix.ha ?_)) | (refine Al.hp H ?_; clear H; intro _ _ H _) | (refine St.h H ?_; clear H; intro _ H))
      ((conv => whnf); refine Dr.tail T.ok mixed 17 (by kernel_rfl) (fun W wT hW eT _ => ?_); (repeat' ((conv => whnf); first | (((with_reducible show Gd _ _ _); first | with_reducible refine Gd.t ?_ | with_reducible refine Gd.f ?_ | with_reducible refine Gd.dec (fun _ => ?_) (fun _ => ?_) | with_reducible refine Gd.beq (fun _ => ?_) (fun _ => ?_) | with_reducible refine Gd.bne (fun _ => ?_) (fun _ => ?_) | with_reducible refine Gd.not ?_ | refine Gd.t ?_ | refine Gd.f ?_ | with_reducible refine Gd.var (fun _ => ?_) (fun _ => ?_)) <;> first | (exfalso; omega) | skip) | ((with_reducible show QLd1 _ _ _); first | refine QLd1.h hW H ?_ | refine QLd1.rF hW ?_ | refine QLd1.r hW ?_) | ((with_reducible show QLd _ _ _ _); first | refine QLd.h hW H ?_ | refine QLd.r hW ?_) | ((with_reducible show Ix _ _ _ _ _); (first | refine Ix.h ?_ | refine Ix.ha ?_)))); replace H := H.ext eT; clear hW eT)
      (conv => whnf)
      refine St.cd (cs := layC (fns l) ts i k) (x := y) H hqi (layC_at hfx hti) (by rw [hql2]; omega) (fun w7 H7 => ?_)
      clear H
      have H := H7
      rw [layC_set hfx hti htl2 hy] at H
      clear H7 hAt hxc hzr hcb hqr
      repeat' ((conv => whnf); first | (((with_reducible show Gd _ _ _); first | with_reducible refine Gd.t ?_ | with_reducible refine Gd.f ?_ | with_reducible refine Gd.dec (fun _ => ?_) (fun _ => ?_) | with_reducible refine Gd.beq (fun _ => ?_) (fun _ => ?_) | with_reducible refine Gd.bne (fun _ => ?_) (fun _ => ?_) | with_reducible refine Gd.not ?_ | refine Gd.t ?_ | refine Gd.f ?_ | with_reducible refine Gd.var (fun _ => ?_) (fun _ => ?_)) <;> first | (exfalso; omega) | skip) | with_reducible refine Sq.mk ?_ | ((with_reducible show Ld1 _ _ _); first | refine Ld1.h H ?_ | refine Ld1.rF ?_ | refine Ld1.r ?_) | ((with_reducible show Ld _ _ _ _); first | refine Ld.h H ?_ | refine Ld.r ?_) | ((with_reducible show Ix _ _ _ _ _); (first | refine Ix.h ?_ | refine Ix.ha ?_)) | (refine Al.hp H ?_; clear H; intro _ _ H _) | (refine St.h H ?_; clear H; intro _ H))
      exact ⟨k + 1, ⟨at_int rfl (w64 (by simp) (by omega) (by omega)), rfl, rfl, rfl, trivial⟩, rfl, ⟨by omega, H⟩, by omega⟩
    · have hk : k = x.1.code.length := by omega
      subst hk
      repeat' ((conv => whnf); first | (((with_reducible show Gd _ _ _); first | with_reducible refine Gd.t ?_ | with_reducible refine Gd.f ?_ | with_reducible refine Gd.dec (fun _ => ?_) (fun _ => ?_) | with_reducible refine Gd.beq (fun _ => ?_) (fun _ => ?_) | with_reducible refine Gd.bne (fun _ => ?_) (fun _ => ?_) | with_reducible refine Gd.not ?_ | refine Gd.t ?_ | refine Gd.f ?_ | with_reducible refine Gd.var (fun _ => ?_) (fun _ => ?_)) <;> first | (exfalso; omega) | skip) | with_reducible refine Sq.mk ?_ | ((with_reducible show Ld1 _ _ _); first | refine Ld1.h H ?_ | refine Ld1.rF ?_ | refine Ld1.r ?_) | ((with_reducible show Ld _ _ _ _); first | refine Ld.h H ?_ | refine Ld.r ?_) | ((with_reducible show Ix _ _ _ _ _); (first | refine Ix.h ?_ | refine Ix.ha ?_)) | (refine Al.hp H ?_; clear H; intro _ _ H _) | (refine St.h H ?_; clear H; intro _ H))
      rw [layC_next hfx hti htl2] at H
      exact ⟨i + 1, ⟨at_int (m := ((i + 1 : Nat) : Int)) rfl (w64 (by simp) (by omega) (by omega)), rfl, rfl, trivial⟩, rfl, ⟨by omega, H⟩, by omega⟩
  · repeat' ((conv => whnf); first | (((with_reducible show Gd _ _ _); first | with_reducible refine Gd.t ?_ | with_reducible refine Gd.f ?_ | with_reducible refine Gd.dec (fun _ => ?_) (fun _ => ?_) | with_reducible refine Gd.beq (fun _ => ?_) (fun _ => ?_) | with_reducible refine Gd.bne (fun _ => ?_) (fun _ => ?_) | with_reducible refine Gd.not ?_ | refine Gd.t ?_ | refine Gd.f ?_ | with_reducible refine Gd.var (fun _ => ?_) (fun _ => ?_)) <;> first | (exfalso; omega) | skip) | with_reducible refine Sq.mk ?_ | ((with_reducible show Ld1 _ _ _); first | refine Ld1.h H ?_ | refine Ld1.rF ?_ | refine Ld1.r ?_) | ((with_reducible show Ld _ _ _ _); first | refine Ld.h H ?_ | refine Ld.r ?_) | ((with_reducible show Ix _ _ _ _ _); (first | refine Ix.h ?_ | refine Ix.ha ?_)) | (refine Al.hp H ?_; clear H; intro _ _ H _) | (refine St.h H ?_; clear H; intro _ H))
    have hi : i = l.length := by omega
    rw [hi, ← hfl, layC_end (by omega)] at H
    exact H.sel [3] rfl
end Go.Proofs.YtbbadmlekagloaaDoor
namespace Go.Proofs.YtbbadmlekagloaaDoor
open Go Go.Sh
set_option linter.unusedVariables false
set_option linter.unusedSimpArgs false
attribute [local irreducible] Blk Ext RdS
theorem Hp.dis {S : Nat → Prop} {w0 w : World} {Γ : List Ck} {c d : Ck} (H : Hp S w0 w Γ) (i j : Nat) (hi : Γ[i]? = some c) (hj : Γ[j]? = some d) (hlt : i < j) (ho : c.own = true ∨ d.own = true) : ∀ k, ¬ (c.fp k ∧ d.fp k) := by
  obtain ⟨h1, h2⟩ := List.getElem?_eq_some_iff.1 hi
  obtain ⟨h3, h4⟩ := List.getElem?_eq_some_iff.1 hj
  have := List.pairwise_iff_getElem.1 H.sep i j h1 h3 hlt
  rw [h2, h4] at this
  exact this ho
theorem turnZip (fs : List Fn) (qs : List Nat) : (zipE (fs.map turnedF) qs).flatMap FE.enc = (zipE fs qs).flatMap FE.enc := by
  induction fs generalizing qs with
  | nil => rfl
  | cons f r ih =>
    cases qs with
    | nil => rfl
    | cons q qr =>
      have := ih qr
      simp only [zipE, List.map_cons, List.zipWith_cons_cons, List.flatMap_cons] at this ⊢
      rw [this]
      congr 1
      simp [FE.enc, lai, turned_len]
      exact ⟨rfl, rfl, rfl⟩
theorem bool_self {x : Int × Nat × Nat} : ((x.1 == x.1) && (((x.2.1 : Int) == (x.2.1 : Int)) && ((x.2.2 : Int) == (x.2.2 : Int)))) = true := by simp
theorem checkPlaced_c (A : Option Addr) (l : List FE) (c : Nat) (w : World) (hA : RdP w A l) (hG : RdG w) (hl : l.length ≤ 1048576) (hc : ∀ x ∈ l, x.1.code.length ≤ 1048576) :
    Cl Tryd.prog 32 #[pv A l.length c] w (fun v w' => v = .bool true ∧ Ext w w') (fun _ _ => False) := by
  have hfl := fns_len l
  refine calls_ex (args := [pv A l.length c]) T.ok Tryd.func32 rfl rfl rfl rfl ?_
  have H := Hp.begin nw w
  refine Sq.mk ?_
  ((conv => whnf); refine Al.hp H ?_; clear H; intro pp _ H _)
  repeat' ((conv => whnf); first | (((with_reducible show Gd _ _ _); first | with_reducible refine Gd.t ?_ | with_reducible refine Gd.f ?_ | with_reducible refine Gd.dec (fun _ => ?_) (fun _ => ?_) | with_reducible refine Gd.beq (fun _ => ?_) (fun _ => ?_) | with_reducible refine Gd.bne (fun _ => ?_) (fun _ => ?_) | with_reducible refine Gd.not ?_ | refine Gd.t ?_ | refine Gd.f ?_ | with_reducible refine Gd.var (fun _ => ?_) (fun _ => ?_)) <;> first | (exfalso; omega) | skip) | with_reducible refine Sq.mk ?_ | ((with_reducible show Ld1 _ _ _); first | refine Ld1.h H ?_ | refine Ld1.rF ?_ | refine Ld1.r ?_) | ((with_reducible show Ld _ _ _ _); first | refine Ld.h H ?_ | refine Ld.r ?_) | ((with_reducible show Ix _ _ _ _ _); (first | refine Ix.h ?_ | refine Ix.ha ?_)) | (refine Al.hp H ?_; clear H; intro _ _ H _) | (refine St.h H ?_; clear H; intro _ H))
  ((conv => whnf); refine Cl.mk (turnedAll_c A l c _ (hA.ext H.e) hl hc) ?_)
  rintro _ w2 ⟨C, d, l', rfl, hts, H'⟩
  replace H := H.fr0L H' (by simp [Ck.new])
  simp only [List.cons_append, List.nil_append] at H
  clear H'
  have hl' : l'.length = l.length := by have := congrArg List.length hts; simp [fns_len] at this; exact this
  have hc' : ∀ x ∈ l', x.1.code.length ≤ 1048576 := fun x hx => by
    have h1 : x.1 ∈ (fns l).map turnedF := by rw [← hts]; exact List.mem_map.2 ⟨x, hx, rfl⟩
    obtain ⟨f, hf, e⟩ := List.mem_map.1 h1
    obtain ⟨y, hy, e2⟩ := List.mem_map.1 hf
    rw [← e, turned_len, ← e2]
    exact hc y hy
  ((conv => whnf); refine Al.hp H ?_; clear H; intro pt _ H _)
  repeat' ((conv => whnf); first | (((with_reducible show Gd _ _ _); first | with_reducible refine Gd.t ?_ | with_reducible refine Gd.f ?_ | with_reducible refine Gd.dec (fun _ => ?_) (fun _ => ?_) | with_reducible refine Gd.beq (fun _ => ?_) (fun _ => ?_) | with_reducible refine Gd.bne (fun _ => ?_) (fun _ => ?_) | with_reducible refine Gd.not ?_ | refine Gd.t ?_ | refine Gd.f ?_ | with_reducible refine Gd.var (fun _ => ?_) (fun _ => ?_)) <;> first | (exfalso; omega) | skip) | with_reducible refine Sq.mk ?_ | ((with_reducible show Ld1 _ _ _); first | refine Ld1.h H ?_ | refine Ld1.rF ?_ | refine Ld1.r ?_) | ((with_reducible show Ld _ _ _ _); first | refine Ld.h H ?_ | refine Ld.r ?_) | ((with_reducible show Ix _ _ _ _ _); (first | refine Ix.h ?_ | refine Ix.ha ?_)) | (refine Al.hp H ?_; clear H; intro _ _ H _) | (refine St.h H ?_; clear H; intro _ H))
  ((conv => whnf); refine Cl.mk (wrap_c C l' d _ ⟨H.rdq 2 rfl, H.atC 1 rfl⟩ (by omega) hc') ?_)
  rintro _ w3 ⟨pf, qs, C2, cc, rfl, hqs, H'⟩
  replace H := H.fr0L H' (by simp [Ck.new])
  simp only [List.cons_append, List.nil_append] at H
  clear H'
  rw [fns_len] at hqs
  ((conv => whnf); refine Al.hp H ?_; clear H; intro pg _ H _)
  repeat' ((conv => whnf); first | (((with_reducible show Gd _ _ _); first | with_reducible refine Gd.t ?_ | with_reducible refine Gd.f ?_ | with_reducible refine Gd.dec (fun _ => ?_) (fun _ => ?_) | with_reducible refine Gd.beq (fun _ => ?_) (fun _ => ?_) | with_reducible refine Gd.bne (fun _ => ?_) (fun _ => ?_) | with_reducible refine Gd.not ?_ | refine Gd.t ?_ | refine Gd.f ?_ | with_reducible refine Gd.var (fun _ => ?_) (fun _ => ?_)) <;> first | (exfalso; omega) | skip) | with_reducible refine Sq.mk ?_ | ((with_reducible show Ld1 _ _ _); first | refine Ld1.h H ?_ | refine Ld1.rF ?_ | refine Ld1.r ?_) | ((with_reducible show Ld _ _ _ _); first | refine Ld.h H ?_ | refine Ld.r ?_) | ((with_reducible show Ix _ _ _ _ _); (first | refine Ix.h ?_ | refine Ix.ha ?_)) | (refine Al.hp H ?_; clear H; intro _ _ H _) | (refine St.h H ?_; clear H; intro _ H))
  have hql : qs.length = (fns l').length := by rw [fns_len]; exact hqs
  have hzl : (zipE (fns l') qs).length = (fns l').length := by rw [zipE, zip_len lai (by omega)]; omega
  have hck1 := Check_c (some ⟨pf, 0, none⟩) (zipE (fns l') qs) ((fns l').length + 1) _ (RdS.from H.e hG) (rdp_zip hql (H.rdb (enc := FE.enc) 3 rfl (fun _ _ => rfl)) (H.atC 1 rfl))
  rw [hzl, fns_zip hql] at hck1
  (((conv => whnf); refine Cl.mk (hck1) ?_); rintro _ _ ⟨rfl, hx⟩; replace H := H.ext hx; clear hx)
  repeat' ((conv => whnf); first | (((with_reducible show Gd _ _ _); first | with_reducible refine Gd.t ?_ | with_reducible refine Gd.f ?_ | with_reducible refine Gd.dec (fun _ => ?_) (fun _ => ?_) | with_reducible refine Gd.beq (fun _ => ?_) (fun _ => ?_) | with_reducible refine Gd.bne (fun _ => ?_) (fun _ => ?_) | with_reducible refine Gd.not ?_ | refine Gd.t ?_ | refine Gd.f ?_ | with_reducible refine Gd.var (fun _ => ?_) (fun _ => ?_)) <;> first | (exfalso; omega) | skip) | with_reducible refine Sq.mk ?_ | ((with_reducible show Ld1 _ _ _); first | refine Ld1.h H ?_ | refine Ld1.rF ?_ | refine Ld1.r ?_) | ((with_reducible show Ld _ _ _ _); first | refine Ld.h H ?_ | refine Ld.r ?_) | ((with_reducible show Ix _ _ _ _ _); (first | refine Ix.h ?_ | refine Ix.ha ?_)) | (refine St.h H ?_; clear H; intro _ H))
  ((conv => whnf); refine Al.hp H ?_; clear H; intro p1 _ H _)
  repeat' ((conv => whnf); first | (((with_reducible show Gd _ _ _); first | with_reducible refine Gd.t ?_ | with_reducible refine Gd.f ?_ | with_reducible refine Gd.dec (fun _ => ?_) (fun _ => ?_) | with_reducible refine Gd.beq (fun _ => ?_) (fun _ => ?_) | with_reducible refine Gd.bne (fun _ => ?_) (fun _ => ?_) | with_reducible refine Gd.not ?_ | refine Gd.t ?_ | refine Gd.f ?_ | with_reducible refine Gd.var (fun _ => ?_) (fun _ => ?_)) <;> first | (exfalso; omega) | skip) | with_reducible refine Sq.mk ?_ | ((with_reducible show Ld1 _ _ _); first | refine Ld1.h H ?_ | refine Ld1.rF ?_ | refine Ld1.r ?_) | ((with_reducible show Ld _ _ _ _); first | refine Ld.h H ?_ | refine Ld.r ?_) | ((with_reducible show Ix _ _ _ _ _); (first | refine Ix.h ?_ | refine Ix.ha ?_)) | (refine Al.hp H ?_; clear H; intro _ _ H _) | (refine St.h H ?_; clear H; intro _ H))
  have hfe : (fns l').length = l.length := by rw [fns_len]; exact hl'
  have hpq : pf ∉ qs := fun h => (Hp.dis H 2 4 rfl rfl (by decide) (.inl rfl)) pf ⟨h, rfl⟩
  have hqlo : ∀ q ∈ qs, w.heap.size ≤ q := fun q hq => by
    rcases H.dom (cdk qs ((fns l').map spC)) (List.mem_of_getElem? (i := 2) rfl) (.inl rfl) q hq with h | h
    · exact h.elim
    · exact h
  have htc : ∀ (i : Nat) (f t : Fn), (fns l)[i]? = some f → (fns l')[i]? = some t → t.code.length = f.code.length := fun i f t hf ht => by
    rw [hts, List.getElem?_map, hf] at ht
    simp at ht; subst ht
    exact turned_len f
  have hzr : RdS FE.enc 4 _ (some ⟨pf, 0, none⟩) (zipE (fns l') qs) := (rdp_zip hql (H.rdb (enc := FE.enc) 4 rfl (fun _ _ => rfl)) (H.atC 2 rfl)).top
  have hly := lay_c (fns l) (fns l') pf (l.length + 1) qs A l c w _ H.e hA rfl (by omega) htc hl hc (by omega) hqlo (H.atC 2 rfl) hzr hpq
  clear hzr
  rw [hfe]
  ((conv => whnf); refine Cl.mk (hly) ?_)
  rintro _ w6 H'
  replace H := H.upd (c := cdk qs ((fns l').map spC)) H' rfl (.inl rfl)
  clear H' hly
  have hz : (zipE (fns l') qs ++ [markF]).flatMap FE.enc = (zipE (fns l) qs ++ [markF]).flatMap FE.enc := by rw [List.flatMap_append, List.flatMap_append, hts, turnZip]
  rw [hz] at H
  have hzl2 : (zipE (fns l) qs).length = l.length := by rw [zipE, zip_len lai (by omega)]; omega
  repeat' ((conv => whnf); first | (((with_reducible show Gd _ _ _); first | with_reducible refine Gd.t ?_ | with_reducible refine Gd.f ?_ | with_reducible refine Gd.dec (fun _ => ?_) (fun _ => ?_) | with_reducible refine Gd.beq (fun _ => ?_) (fun _ => ?_) | with_reducible refine Gd.bne (fun _ => ?_) (fun _ => ?_) | with_reducible refine Gd.not ?_ | refine Gd.t ?_ | refine Gd.f ?_ | with_reducible refine Gd.var (fun _ => ?_) (fun _ => ?_)) <;> first | (exfalso; omega) | skip) | with_reducible refine Sq.mk ?_ | ((with_reducible show Ld1 _ _ _); first | refine Ld1.h H ?_ | refine Ld1.rF ?_ | refine Ld1.r ?_) | ((with_reducible show Ld _ _ _ _); first | refine Ld.h H ?_ | refine Ld.r ?_) | ((with_reducible show Ix _ _ _ _ _); (first | refine Ix.h ?_ | refine Ix.ha ?_)) | (refine Al.hp H ?_; clear H; intro _ _ H _) | (refine St.h H ?_; clear H; intro _ H))
  have hck2 := Check_c (some ⟨pf, 0, none⟩) (zipE (fns l) qs) (l.length + 1) _ (RdS.from H.e hG) (rdp_zip (by omega) (H.rdb (enc := FE.enc) 4 rfl (fun _ _ => rfl)) (H.atC 2 rfl))
  rw [hzl2, fns_zip (by omega)] at hck2
  rw [hfe] at H ⊢
  (((conv => whnf); refine Cl.mk (hck2) ?_); rintro _ _ ⟨rfl, hx⟩; replace H := H.ext hx; clear hx)
  clear hck2
  ((conv => whnf); refine Al.hp H ?_; clear H; intro p2 _ H _)
  repeat' ((conv => whnf); first | (((with_reducible show Gd _ _ _); first | with_reducible refine Gd.t ?_ | with_reducible refine Gd.f ?_ | with_reducible refine Gd.dec (fun _ => ?_) (fun _ => ?_) | with_reducible refine Gd.beq (fun _ => ?_) (fun _ => ?_) | with_reducible refine Gd.bne (fun _ => ?_) (fun _ => ?_) | with_reducible refine Gd.not ?_ | refine Gd.t ?_ | refine Gd.f ?_ | with_reducible refine Gd.var (fun _ => ?_) (fun _ => ?_)) <;> first | (exfalso; omega) | skip) | with_reducible refine Sq.mk ?_ | ((with_reducible show Ld1 _ _ _); first | refine Ld1.h H ?_ | refine Ld1.rF ?_ | refine Ld1.r ?_) | ((with_reducible show Ld _ _ _ _); first | refine Ld.h H ?_ | refine Ld.r ?_) | ((with_reducible show Ix _ _ _ _ _); (first | refine Ix.h ?_ | refine Ix.ha ?_)) | (refine Al.hp H ?_; clear H; intro _ _ H _) | (refine St.h H ?_; clear H; intro _ H))
  have hP1 := hA.ext H.e
  have hP2 : RdP _ C l' := ⟨H.rdq 8 rfl, H.atC 7 rfl⟩
  ((conv => whnf); refine Dr.quiet T.ok mixed (by kernel_rfl) (fun W hW => ?_))
  repeat' (first | ((conv => whnf); first | (((with_reducible show Gd _ _ _); first | with_reducible refine Gd.t ?_ | with_reducible refine Gd.f ?_ | with_reducible refine Gd.dec (fun _ => ?_) (fun _ => ?_) | with_reducible refine Gd.beq (fun _ => ?_) (fun _ => ?_) | with_reducible refine Gd.bne (fun _ => ?_) (fun _ => ?_) | with_reducible refine Gd.not ?_ | refine Gd.t ?_ | refine Gd.f ?_ | with_reducible refine Gd.var (fun _ => ?_) (fun _ => ?_)) <;> first | (exfalso; omega) | skip) | ((with_reducible show QLd1 _ _ _); first | refine QLd1.h hW H ?_ | refine QLd1.rF hW ?_ | refine QLd1.r hW ?_) | ((with_reducible show QLd _ _ _ _); first | refine QLd.h hW H ?_ | refine QLd.r hW ?_) | ((with_reducible show Ix _ _ _ _ _); (first | refine Ix.h ?_ | refine Ix.ha ?_))) | ((conv => whnf); refine QCl.mk hW (fun _ ee => Cl.mk (rCheck_c C l' d _ (hP2.ext ee)) (fun _ _ h => h)) ?_) | ((conv => whnf); refine QCl.mk hW (fun _ ee => Cl.mk (rCheck_c A l c _ (hP1.ext ee)) (fun _ _ h => h)) ?_))
  all_goals first | (exfalso; rename_i hx; simp at hx; done) | skip
  (intro _ eT; replace H := H.ext eT; clear hW eT)
  clear hP1 hP2
  repeat' ((conv => whnf); first | (((with_reducible show Gd _ _ _); first | with_reducible refine Gd.t ?_ | with_reducible refine Gd.f ?_ | with_reducible refine Gd.dec (fun _ => ?_) (fun _ => ?_) | with_reducible refine Gd.beq (fun _ => ?_) (fun _ => ?_) | with_reducible refine Gd.bne (fun _ => ?_) (fun _ => ?_) | with_reducible refine Gd.not ?_ | refine Gd.t ?_ | refine Gd.f ?_ | with_reducible refine Gd.var (fun _ => ?_) (fun _ => ?_)) <;> first | (exfalso; omega) | skip) | with_reducible refine Sq.mk ?_ | ((with_reducible show Ld1 _ _ _); first | refine Ld1.h H ?_ | refine Ld1.rF ?_ | refine Ld1.r ?_) | ((with_reducible show Ld _ _ _ _); first | refine Ld.h H ?_ | refine Ld.r ?_) | ((with_reducible show Ix _ _ _ _ _); (first | refine Ix.h ?_ | refine Ix.ha ?_)) | (refine Al.hp H ?_; clear H; intro _ _ H _) | (refine St.h H ?_; clear H; intro _ H))
  exact ⟨b_eq (by simp), H.e⟩
theorem progCheck_c (A : Option Addr) (l : List FE) (c : Nat) (w : World) (hA : RdP w A l) (hG : RdG w) (hl : l.length ≤ 1048576) (hc : ∀ x ∈ l, x.1.code.length ≤ 1048576) :
    Cl Tryd.prog 5 #[pv A l.length c] w (fun v w' => v = .bool true ∧ Ext w w') (fun _ _ => False) := by
  have hfl := fns_len l
  refine calls_ex (args := [pv A l.length c]) T.ok Tryd.func5 rfl rfl rfl rfl ?_
  have H := Hp.begin nw w
  refine Sq.mk ?_
  ((conv => whnf); refine Al.hp H ?_; clear H; intro pp _ H _)
  repeat' ((conv => whnf); first | (((with_reducible show Gd _ _ _); first | with_reducible refine Gd.t ?_ | with_reducible refine Gd.f ?_ | with_reducible refine Gd.dec (fun _ => ?_) (fun _ => ?_) | with_reducible refine Gd.beq (fun _ => ?_) (fun _ => ?_) | with_reducible refine Gd.bne (fun _ => ?_) (fun _ => ?_) | with_reducible refine Gd.not ?_ | refine Gd.t ?_ | refine Gd.f ?_ | with_reducible refine Gd.var (fun _ => ?_) (fun _ => ?_)) <;> first | (exfalso; omega) | skip) | with_reducible refine Sq.mk ?_ | ((with_reducible show Ld1 _ _ _); first | refine Ld1.h H ?_ | refine Ld1.rF ?_ | refine Ld1.r ?_) | ((with_reducible show Ld _ _ _ _); first | refine Ld.h H ?_ | refine Ld.r ?_) | ((with_reducible show Ix _ _ _ _ _); (first | refine Ix.h ?_ | refine Ix.ha ?_)) | (refine Al.hp H ?_; clear H; intro _ _ H _) | (refine St.h H ?_; clear H; intro _ H))
  (((conv => whnf); refine Cl.mk (rCheck_c A l c _ (hA.ext H.e)) ?_); rintro _ _ ⟨rfl, hx⟩; replace H := H.ext hx; clear hx)
  ((conv => whnf); refine Al.hp H ?_; clear H; intro p1 _ H _)
  repeat' ((conv => whnf); first | (((with_reducible show Gd _ _ _); first | with_reducible refine Gd.t ?_ | with_reducible refine Gd.f ?_ | with_reducible refine Gd.dec (fun _ => ?_) (fun _ => ?_) | with_reducible refine Gd.beq (fun _ => ?_) (fun _ => ?_) | with_reducible refine Gd.bne (fun _ => ?_) (fun _ => ?_) | with_reducible refine Gd.not ?_ | refine Gd.t ?_ | refine Gd.f ?_ | with_reducible refine Gd.var (fun _ => ?_) (fun _ => ?_)) <;> first | (exfalso; omega) | skip) | with_reducible refine Sq.mk ?_ | ((with_reducible show Ld1 _ _ _); first | refine Ld1.h H ?_ | refine Ld1.rF ?_ | refine Ld1.r ?_) | ((with_reducible show Ld _ _ _ _); first | refine Ld.h H ?_ | refine Ld.r ?_) | ((with_reducible show Ix _ _ _ _ _); (first | refine Ix.h ?_ | refine Ix.ha ?_)) | (refine Al.hp H ?_; clear H; intro _ _ H _) | (refine St.h H ?_; clear H; intro _ H))
  ((conv => whnf); refine Cl.mk (wrap_c A l c _ (hA.ext H.e) hl hc) ?_)
  rintro _ w3 ⟨pf, qs, C2, cc, rfl, hqs, H'⟩
  replace H := H.fr0L H' (by simp [Ck.new])
  simp only [List.cons_append, List.nil_append] at H
  clear H'
  rw [hfl]
  ((conv => whnf); refine Al.hp H ?_; clear H; intro pg _ H _)
  have hzl : (zipE (fns l) qs).length = l.length := by rw [zipE, zip_len lai (by omega)]; omega
  repeat' ((conv => whnf); first | (((with_reducible show Gd _ _ _); first | with_reducible refine Gd.t ?_ | with_reducible refine Gd.f ?_ | with_reducible refine Gd.dec (fun _ => ?_) (fun _ => ?_) | with_reducible refine Gd.beq (fun _ => ?_) (fun _ => ?_) | with_reducible refine Gd.bne (fun _ => ?_) (fun _ => ?_) | with_reducible refine Gd.not ?_ | refine Gd.t ?_ | refine Gd.f ?_ | with_reducible refine Gd.var (fun _ => ?_) (fun _ => ?_)) <;> first | (exfalso; omega) | skip) | with_reducible refine Sq.mk ?_ | ((with_reducible show Ld1 _ _ _); first | refine Ld1.h H ?_ | refine Ld1.rF ?_ | refine Ld1.r ?_) | ((with_reducible show Ld _ _ _ _); first | refine Ld.h H ?_ | refine Ld.r ?_) | ((with_reducible show Ix _ _ _ _ _); (first | refine Ix.h ?_ | refine Ix.ha ?_)) | (refine Al.hp H ?_; clear H; intro _ _ H _) | (refine St.h H ?_; clear H; intro _ H))
  have hck1 := Check_c (some ⟨pf, 0, none⟩) (zipE (fns l) qs) (l.length + 1) _ (RdS.from H.e hG) (rdp_zip hqs (H.rdb (enc := FE.enc) 3 rfl (fun _ _ => rfl)) (H.atC 1 rfl))
  rw [hzl, fns_zip hqs] at hck1
  (((conv => whnf); refine Cl.mk (hck1) ?_); rintro _ _ ⟨rfl, hx⟩; replace H := H.ext hx; clear hx)
  clear hck1
  ((conv => whnf); refine Al.hp H ?_; clear H; intro p2 _ H _)
  repeat' ((conv => whnf); first | (((with_reducible show Gd _ _ _); first | with_reducible refine Gd.t ?_ | with_reducible refine Gd.f ?_ | with_reducible refine Gd.dec (fun _ => ?_) (fun _ => ?_) | with_reducible refine Gd.beq (fun _ => ?_) (fun _ => ?_) | with_reducible refine Gd.bne (fun _ => ?_) (fun _ => ?_) | with_reducible refine Gd.not ?_ | refine Gd.t ?_ | refine Gd.f ?_ | with_reducible refine Gd.var (fun _ => ?_) (fun _ => ?_)) <;> first | (exfalso; omega) | skip) | with_reducible refine Sq.mk ?_ | ((with_reducible show Ld1 _ _ _); first | refine Ld1.h H ?_ | refine Ld1.rF ?_ | refine Ld1.r ?_) | ((with_reducible show Ld _ _ _ _); first | refine Ld.h H ?_ | refine Ld.r ?_) | ((with_reducible show Ix _ _ _ _ _); (first | refine Ix.h ?_ | refine Ix.ha ?_)) | (refine Al.hp H ?_; clear H; intro _ _ H _) | (refine St.h H ?_; clear H; intro _ H))
  have hck1 := Check_c (some ⟨pf, 0, none⟩) (zipE (fns l) qs) (l.length + 1) _ (RdS.from H.e hG) (rdp_zip hqs (H.rdb (enc := FE.enc) 4 rfl (fun _ _ => rfl)) (H.atC 2 rfl))
  rw [hzl, fns_zip hqs] at hck1
  (((conv => whnf); refine Cl.mk (hck1) ?_); rintro _ _ ⟨rfl, hx⟩; replace H := H.ext hx; clear hx)
  clear hck1
  ((conv => whnf); refine Al.hp H ?_; clear H; intro p3 _ H _)
  repeat' ((conv => whnf); first | (((with_reducible show Gd _ _ _); first | with_reducible refine Gd.t ?_ | with_reducible refine Gd.f ?_ | with_reducible refine Gd.dec (fun _ => ?_) (fun _ => ?_) | with_reducible refine Gd.beq (fun _ => ?_) (fun _ => ?_) | with_reducible refine Gd.bne (fun _ => ?_) (fun _ => ?_) | with_reducible refine Gd.not ?_ | refine Gd.t ?_ | refine Gd.f ?_ | with_reducible refine Gd.var (fun _ => ?_) (fun _ => ?_)) <;> first | (exfalso; omega) | skip) | with_reducible refine Sq.mk ?_ | ((with_reducible show Ld1 _ _ _); first | refine Ld1.h H ?_ | refine Ld1.rF ?_ | refine Ld1.r ?_) | ((with_reducible show Ld _ _ _ _); first | refine Ld.h H ?_ | refine Ld.r ?_) | ((with_reducible show Ix _ _ _ _ _); (first | refine Ix.h ?_ | refine Ix.ha ?_)) | (refine Al.hp H ?_; clear H; intro _ _ H _) | (refine St.h H ?_; clear H; intro _ H))
  all_goals first | (exfalso; rename_i hx; simp at hx; done) | skip
  have hut := untouched_c (fns l) pf qs C2 cc A l c _ (hA.ext H.e) rfl hl hc hqs (H.atC 3 rfl) (H.rdq 4 rfl) (H.rdb (enc := FE.enc) 5 rfl (fun _ _ => rfl))
  repeat' (first | ((conv => whnf); first | (((with_reducible show Gd _ _ _); first | with_reducible refine Gd.t ?_ | with_reducible refine Gd.f ?_ | with_reducible refine Gd.dec (fun _ => ?_) (fun _ => ?_) | with_reducible refine Gd.beq (fun _ => ?_) (fun _ => ?_) | with_reducible refine Gd.bne (fun _ => ?_) (fun _ => ?_) | with_reducible refine Gd.not ?_ | refine Gd.t ?_ | refine Gd.f ?_ | with_reducible refine Gd.var (fun _ => ?_) (fun _ => ?_)) <;> first | (exfalso; omega) | skip) | with_reducible refine Sq.mk ?_ | ((with_reducible show Ld1 _ _ _); first | refine Ld1.h H ?_ | refine Ld1.rF ?_ | refine Ld1.r ?_) | ((with_reducible show Ld _ _ _ _); first | refine Ld.h H ?_ | refine Ld.r ?_) | ((with_reducible show Ix _ _ _ _ _); (first | refine Ix.h ?_ | refine Ix.ha ?_)) | (refine Al.hp H ?_; clear H; intro _ _ H _) | (refine St.h H ?_; clear H; intro _ H)) | (((conv => whnf); refine Cl.mk (hut) ?_); rintro _ _ ⟨rfl, hx⟩; replace H := H.ext hx; clear hx) | (((conv => whnf); refine Cl.mk (checkPlaced_c A l c _ (hA.ext H.e) (RdS.from H.e hG) hl hc) ?_); rintro _ _ ⟨rfl, hx⟩; replace H := H.ext hx; clear hx))
  exact ⟨rfl, H.e⟩
end Go.Proofs.YtbbadmlekagloaaDoor
namespace Go.Proofs.YtbbadmlekagloaaDoor
open Go Go.Sh
set_option linter.unusedVariables false
set_option linter.unusedSimpArgs false
attribute [local irreducible] Blk Ext RdS
theorem run_rem {P : Program} {t : Nat} {a b : Int} {xo yo : Operand} (hb : b ≠ 0) (w : World) : (do eqGuard .rem t xo yo (.int .i64 a) (.int .i64 b); binOp .rem t (.int .i64 a) (.int .i64 b) : Sem Value).run P w = .ok (.int .i64 (a.tmod b)) w := by
  have hg : (eqGuard .rem t xo yo (.int .i64 a) (.int .i64 b)).run P w = .ok () w := by unfold eqGuard; simp
  simp [hg, binOp, Op.intDiv, hb]
def modN (x : Int) (n : Nat) : Nat := (if x.tmod n < 0 then x.tmod n + n else x.tmod n).toNat
theorem modN_lt (x : Int) {n : Nat} (h : 0 < n) : modN x n < n := by
  have h1 := Int.tmod_lt_of_pos x (show (0 : Int) < n by omega)
  have h2 := Int.lt_tmod_of_pos x (show (0 : Int) < n by omega)
  unfold modN
  split <;> omega
theorem modN_v (x : Int) {n : Nat} (h : 0 < n) : (if x.tmod n < 0 then x.tmod n + n else x.tmod n) = ((modN x n : Nat) : Int) := by
  have h2 := Int.lt_tmod_of_pos x (show (0 : Int) < n by omega)
  unfold modN
  split <;> omega
theorem mod_c (x : Int) (n : Nat) (w : World) (h : 0 < n) (hn : n ≤ 9223372036854775807) : Cl Tryd.prog 34 #[.int .i64 x, .int .i64 (n : Int)] w (fun v w' => v = .int .i64 (modN x n : Int) ∧ Ext w w') (fun _ _ => False) := by
  have h1 := Int.tmod_lt_of_pos x (show (0 : Int) < n by omega)
  have h2 := Int.lt_tmod_of_pos x (show (0 : Int) < n by omega)
  have hv := modN_v x h
  refine calls_ex (args := [.int .i64 x, .int .i64 (n : Int)]) T.ok Tryd.func34 rfl rfl rfl rfl ?_
  have H := Hp.begin nw w
  repeat' ((conv => whnf); first | (((with_reducible show Gd _ _ _); first | with_reducible refine Gd.t ?_ | with_reducible refine Gd.f ?_ | with_reducible refine Gd.dec (fun _ => ?_) (fun _ => ?_) | with_reducible refine Gd.beq (fun _ => ?_) (fun _ => ?_) | with_reducible refine Gd.bne (fun _ => ?_) (fun _ => ?_) | with_reducible refine Gd.not ?_ | refine Gd.t ?_ | refine Gd.f ?_ | with_reducible refine Gd.var (fun _ => ?_) (fun _ => ?_)) <;> first | (exfalso; omega) | skip) | with_reducible refine Sq.mk ?_ | ((with_reducible show Ld1 _ _ _); first | refine Ld1.h H ?_ | refine Ld1.rF ?_ | refine Ld1.r ?_) | ((with_reducible show Ld _ _ _ _); first | refine Ld.h H ?_ | refine Ld.r ?_) | ((with_reducible show Ix _ _ _ _ _); (first | refine Ix.h ?_ | refine Ix.ha ?_)) | (refine Al.hp H ?_; clear H; intro _ _ H _) | (refine St.h H ?_; clear H; intro _ H))
  refine Sm.ran (run_rem (by omega) _) ?_
  repeat' ((conv => whnf); first | (((with_reducible show Gd _ _ _); first | with_reducible refine Gd.t ?_ | with_reducible refine Gd.f ?_ | with_reducible refine Gd.dec (fun _ => ?_) (fun _ => ?_) | with_reducible refine Gd.beq (fun _ => ?_) (fun _ => ?_) | with_reducible refine Gd.bne (fun _ => ?_) (fun _ => ?_) | with_reducible refine Gd.not ?_ | refine Gd.t ?_ | refine Gd.f ?_ | with_reducible refine Gd.var (fun _ => ?_) (fun _ => ?_)) <;> first | (exfalso; omega) | skip) | with_reducible refine Sq.mk ?_ | ((with_reducible show Ld1 _ _ _); first | refine Ld1.h H ?_ | refine Ld1.rF ?_ | refine Ld1.r ?_) | ((with_reducible show Ld _ _ _ _); first | refine Ld.h H ?_ | refine Ld.r ?_) | ((with_reducible show Ix _ _ _ _ _); (first | refine Ix.h ?_ | refine Ix.ha ?_)) | (refine Al.hp H ?_; clear H; intro _ _ H _) | (refine St.h H ?_; clear H; intro _ H))
  · refine ⟨i_eq ?_, H.e⟩
    rw [if_pos (by assumption)] at hv
    rw [← hv]
    exact w64 rfl (by omega) (by omega)
  · refine ⟨i_eq ?_, H.e⟩
    rw [if_neg (by assumption)] at hv
    exact hv
/-- what Check says of a program that it takes -/
structure Valid (fs : List Fn) : Prop where
  len : 1 ≤ fs.length ∧ fs.length ≤ 32
  shaped : ∀ f ∈ fs, shapedB f = true
  ins : ∀ f ∈ fs, ∀ c ∈ f.code, aloneB f c = true ∧ calledB fs f c = true
  ends : ∀ f ∈ fs, endsB f = true
  slot : ∀ f ∈ fs, ∀ (i : Nat) (c : Ins), f.code[i]? = some c → rowFault c (rowL f.slots.toNat (flwG f i)) = 0
theorem fs1_all {α β : Type} {g : Nat → α → Option β} : ∀ {l : List α} {j : Nat}, fs1 g l j = none → ∀ (i : Nat) (x : α), l[i]? = some x → g (j + i) x = none
  | [], _, _, i, x, h => by simp at h
  | y :: r, j, hn, i, x, h => by
    cases hg : g j y with
    | some b => simp [fs1, hg] at hn
    | none =>
      simp only [fs1, hg] at hn
      cases i with
      | zero => simp at h; subst h; exact hg
      | succ i =>
        have := fs1_all hn i x (by simpa using h)
        rwa [show j + 1 + i = j + (i + 1) by omega] at this
theorem fs1_none {α β : Type} {g : Nat → α → Option β} : ∀ {l : List α} {j : Nat}, (∀ (i : Nat) (x : α), l[i]? = some x → g (j + i) x = none) → fs1 g l j = none
  | [], _, _ => rfl
  | y :: r, j, h => by
    have h0 := h 0 y rfl
    simp only [Nat.add_zero] at h0
    simp only [fs1, h0]
    exact fs1_none fun i x hx => by
      have := h (i + 1) x (by simpa using hx)
      rwa [show j + (i + 1) = j + 1 + i by omega] at this
theorem check_ok {fs : List Fn} : (checkL fs).1 = 0 ↔ Valid fs := by
  constructor
  · intro h
    unfold checkL at h
    split at h
    · simp at h
    rename_i hlen
    split at h
    · simp at h
    rename_i h1
    split at h
    · rename_i i e k h2
      exfalso
      have key : ∀ {l : List Fn} {j : Nat}, fs1 (fun _ f => ins1 fs f) l j = some (i, e, k) → e ≠ 0 := by
        intro l
        induction l with
        | nil => intro j h; simp [fs1] at h
        | cons x r ih =>
          intro j h
          cases hx : ins1 fs x with
          | none => simp only [fs1, hx] at h; exact ih h
          | some b =>
            simp only [fs1, hx, Option.some.injEq, Prod.mk.injEq] at h
            obtain ⟨_, rfl⟩ := h
            unfold ins1 at hx
            split at hx
            · simp at hx; omega
            · split at hx
              · simp at hx
              · simp at hx; omega
      exact key h2 h
    rename_i h2
    split at h
    · rename_i i e k h3
      exfalso
      have key : ∀ {l : List Fn} {j : Nat}, fs1 (fun _ f => slot1 f) l j = some (i, e, k) → e ≠ 0 := by
        intro l
        induction l with
        | nil => intro j h; simp [fs1] at h
        | cons x r ih =>
          intro j h
          cases hx : slot1 x with
          | none => simp only [fs1, hx] at h; exact ih h
          | some b =>
            simp only [fs1, hx, Option.some.injEq, Prod.mk.injEq] at h
            obtain ⟨_, rfl⟩ := h
            have key2 : ∀ {m : List Ins} {j : Nat} {q : Nat} {u : Int}, fs1 (slotG x) m j = some (q, u) → u ≠ 0 := by
              intro m
              induction m with
              | nil => intro j q u h; simp [fs1] at h
              | cons y s ih2 =>
                intro j q u h
                cases hy : slotG x j y with
                | none => simp only [fs1, hy] at h; exact ih2 h
                | some b =>
                  simp only [fs1, hy, Option.some.injEq, Prod.mk.injEq] at h
                  obtain ⟨_, rfl⟩ := h
                  unfold slotG at hy
                  split at hy
                  · simp at hy
                  · rename_i hne; simp at hy; rw [← hy]; exact hne
            unfold slot1 at hx
            rw [Option.map_eq_some_iff] at hx
            obtain ⟨⟨q, u⟩, h4, h5⟩ := hx
            simp at h5
            rw [← h5.1]
            exact key2 h4
      exact key h3 h
    rename_i h3
    have a1 := fs1_all h1
    have a2 := fs1_all h2
    have a3 := fs1_all h3
    have hsh : ∀ f ∈ fs, shapedB f = true := fun f hf => by
      obtain ⟨i, hi⟩ := List.getElem?_of_mem hf
      have := a1 i f hi
      by_cases hs : shapedB f = true
      · exact hs
      · simp [hs] at this
    refine ⟨by omega, hsh, fun f hf c hc => ?_, fun f hf => ?_, fun f hf i c hc => ?_⟩
    · obtain ⟨i, hi⟩ := List.getElem?_of_mem hf
      obtain ⟨k, hk⟩ := List.getElem?_of_mem hc
      have := a2 i f hi
      unfold ins1 at this
      split at this
      · simp at this
      rename_i h4
      have := fs1_all h4 k c hk
      unfold insG at this
      split at this
      · rename_i h5; simpa using h5
      · simp at this
    · obtain ⟨i, hi⟩ := List.getElem?_of_mem hf
      have := a2 i f hi
      unfold ins1 at this
      split at this
      · simp at this
      split at this
      · assumption
      · simp at this
    · obtain ⟨j, hj⟩ := List.getElem?_of_mem hf
      have := a3 j f hj
      unfold slot1 at this
      rw [Option.map_eq_none_iff] at this
      have := fs1_all this i c hc
      rw [Nat.zero_add] at this
      unfold slotG at this
      split at this
      · assumption
      · simp at this
  · intro h
    have h1 : fs1 (fun _ f => if shapedB f then none else some ()) fs 0 = none := fs1_none fun i f hf => by simp [h.shaped f (List.mem_of_getElem? hf)]
    have h2 : fs1 (fun _ f => ins1 fs f) fs 0 = none := fs1_none fun i f hf => by
      have hm := List.mem_of_getElem? hf
      have : fs1 (insG fs f) f.code 0 = none := fs1_none fun k c hc => by
        have := h.ins f hm c (List.mem_of_getElem? hc)
        simp [insG, this]
      rw [ins1, this]
      simp [h.ends f hm]
    have h3 : fs1 (fun _ f => slot1 f) fs 0 = none := fs1_none fun i f hf => by
      have hm := List.mem_of_getElem? hf
      have : fs1 (slotG f) f.code 0 = none := fs1_none fun k c hc => by
        have := h.slot f hm k c hc
        simp [slotG, this]
      rw [slot1, this]; rfl
    unfold checkL
    rw [if_neg (by have := h.len; omega)]
    simp only [h1, h2, h3]
theorem check_valid {fs : List Fn} (h : Valid fs) : checkL fs = (0, 0, 0) := by
  have h1 : fs1 (fun _ f => if shapedB f then none else some ()) fs 0 = none := fs1_none fun i f hf => by simp [h.shaped f (List.mem_of_getElem? hf)]
  have h2 : fs1 (fun _ f => ins1 fs f) fs 0 = none := fs1_none fun i f hf => by
    have hm := List.mem_of_getElem? hf
    have : fs1 (insG fs f) f.code 0 = none := fs1_none fun k c hc => by
      have := h.ins f hm c (List.mem_of_getElem? hc)
      simp [insG, this]
    rw [ins1, this]
    simp [h.ends f hm]
  have h3 : fs1 (fun _ f => slot1 f) fs 0 = none := fs1_none fun i f hf => by
    have hm := List.mem_of_getElem? hf
    have : fs1 (slotG f) f.code 0 = none := fs1_none fun k c hc => by
      have := h.slot f hm k c hc
      simp [slotG, this]
    rw [slot1, this]; rfl
  unfold checkL
  rw [if_neg (by have := h.len; omega)]
  simp only [h1, h2, h3]
theorem head_c (w : World) (hG : RdG w) : Cl Tryd.prog 33 #[] w (fun v w' => v = .bool true ∧ Ext w w') (fun _ _ => False) := by
  refine calls_ex (args := []) T.ok Tryd.func33 rfl rfl rfl rfl ?_
  have H := Hp.begin nw w
  repeat' ((conv => whnf); first | (((with_reducible show Gd _ _ _); first | with_reducible refine Gd.t ?_ | with_reducible refine Gd.f ?_ | with_reducible refine Gd.dec (fun _ => ?_) (fun _ => ?_) | with_reducible refine Gd.beq (fun _ => ?_) (fun _ => ?_) | with_reducible refine Gd.bne (fun _ => ?_) (fun _ => ?_) | with_reducible refine Gd.not ?_ | refine Gd.t ?_ | refine Gd.f ?_ | with_reducible refine Gd.var (fun _ => ?_) (fun _ => ?_)) <;> first | (exfalso; omega) | skip) | with_reducible refine Sq.mk ?_ | ((with_reducible show Ld1 _ _ _); first | refine Ld1.h H ?_ | refine Ld1.rF ?_ | refine Ld1.r ?_) | ((with_reducible show Ld _ _ _ _); first | refine Ld.h H ?_ | refine Ld.r ?_) | ((with_reducible show Ix _ _ _ _ _); (first | refine Ix.h ?_ | refine Ix.ha ?_)) | (refine Al.hp H ?_; clear H; intro _ _ H _) | (refine St.h H ?_; clear H; intro _ H))
  refine Sm.lith (cs := Ins.enc ⟨9, 0, 0, 0, 0⟩) H T.ok (fun p1 w1 H _ => ?_)
  repeat' ((conv => whnf); first | (((with_reducible show Gd _ _ _); first | with_reducible refine Gd.t ?_ | with_reducible refine Gd.f ?_ | with_reducible refine Gd.dec (fun _ => ?_) (fun _ => ?_) | with_reducible refine Gd.beq (fun _ => ?_) (fun _ => ?_) | with_reducible refine Gd.bne (fun _ => ?_) (fun _ => ?_) | with_reducible refine Gd.not ?_ | refine Gd.t ?_ | refine Gd.f ?_ | with_reducible refine Gd.var (fun _ => ?_) (fun _ => ?_)) <;> first | (exfalso; omega) | skip) | with_reducible refine Sq.mk ?_ | ((with_reducible show Ld1 _ _ _); first | refine Ld1.h H ?_ | refine Ld1.rF ?_ | refine Ld1.r ?_) | ((with_reducible show Ld _ _ _ _); first | refine Ld.h H ?_ | refine Ld.r ?_) | ((with_reducible show Ix _ _ _ _ _); (first | refine Ix.h ?_ | refine Ix.ha ?_)) | (refine Al.hp H ?_; clear H; intro _ _ H _) | (refine St.h H ?_; clear H; intro _ H))
  refine Sm.lith (cs := FE.enc (⟨0, 1, 0, [⟨9, 0, 0, 0, 0⟩]⟩, some ⟨p1, 0, none⟩, 1)) H T.ok (fun p2 w2 H _ => ?_)
  repeat' ((conv => whnf); first | (((with_reducible show Gd _ _ _); first | with_reducible refine Gd.t ?_ | with_reducible refine Gd.f ?_ | with_reducible refine Gd.dec (fun _ => ?_) (fun _ => ?_) | with_reducible refine Gd.beq (fun _ => ?_) (fun _ => ?_) | with_reducible refine Gd.bne (fun _ => ?_) (fun _ => ?_) | with_reducible refine Gd.not ?_ | refine Gd.t ?_ | refine Gd.f ?_ | with_reducible refine Gd.var (fun _ => ?_) (fun _ => ?_)) <;> first | (exfalso; omega) | skip) | with_reducible refine Sq.mk ?_ | ((with_reducible show Ld1 _ _ _); first | refine Ld1.h H ?_ | refine Ld1.rF ?_ | refine Ld1.r ?_) | ((with_reducible show Ld _ _ _ _); first | refine Ld.h H ?_ | refine Ld.r ?_) | ((with_reducible show Ix _ _ _ _ _); (first | refine Ix.h ?_ | refine Ix.ha ?_)) | (refine Al.hp H ?_; clear H; intro _ _ H _) | (refine St.h H ?_; clear H; intro _ H))
  have hP1 : RdP _ (some ⟨p2, 0, none⟩) [((⟨0, 1, 0, [⟨9, 0, 0, 0, 0⟩]⟩, some ⟨p1, 0, none⟩, 1) : FE)] := ⟨rd_full (H.blk 0 rfl) (fun _ _ => rfl), fun x hx => by simp at hx; subst hx; exact rd_full (H.blk 1 rfl) (fun _ _ => rfl)⟩
  have hc1 := Check_c _ _ 1 _ (RdS.from H.e hG) hP1
  have hv1 : checkL (fns [((⟨0, 1, 0, [⟨9, 0, 0, 0, 0⟩]⟩, some ⟨p1, 0, none⟩, 1) : FE)]) = (0, 0, 0) := by
    simp [checkL, fns, fs1, shapedB, ins1, insG, aloneB, belowB, calledB, endsB, slot1, slotG, rowFault, rowL]
  rw [hv1] at hc1
  (((conv => whnf); refine Cl.mk (hc1) ?_); rintro _ _ ⟨rfl, hx⟩; replace H := H.ext hx; clear hx)
  clear hc1 hP1 hv1
  repeat' ((conv => whnf); first | (((with_reducible show Gd _ _ _); first | with_reducible refine Gd.t ?_ | with_reducible refine Gd.f ?_ | with_reducible refine Gd.dec (fun _ => ?_) (fun _ => ?_) | with_reducible refine Gd.beq (fun _ => ?_) (fun _ => ?_) | with_reducible refine Gd.bne (fun _ => ?_) (fun _ => ?_) | with_reducible refine Gd.not ?_ | refine Gd.t ?_ | refine Gd.f ?_ | with_reducible refine Gd.var (fun _ => ?_) (fun _ => ?_)) <;> first | (exfalso; omega) | skip) | with_reducible refine Sq.mk ?_ | ((with_reducible show Ld1 _ _ _); first | refine Ld1.h H ?_ | refine Ld1.rF ?_ | refine Ld1.r ?_) | ((with_reducible show Ld _ _ _ _); first | refine Ld.h H ?_ | refine Ld.r ?_) | ((with_reducible show Ix _ _ _ _ _); (first | refine Ix.h ?_ | refine Ix.ha ?_)) | (refine Al.hp H ?_; clear H; intro _ _ H _) | (refine St.h H ?_; clear H; intro _ H))
  refine Sm.lith (cs := Ins.enc ⟨9, 1, 0, 0, 0⟩) H T.ok (fun p3 w3 H _ => ?_)
  repeat' ((conv => whnf); first | (((with_reducible show Gd _ _ _); first | with_reducible refine Gd.t ?_ | with_reducible refine Gd.f ?_ | with_reducible refine Gd.dec (fun _ => ?_) (fun _ => ?_) | with_reducible refine Gd.beq (fun _ => ?_) (fun _ => ?_) | with_reducible refine Gd.bne (fun _ => ?_) (fun _ => ?_) | with_reducible refine Gd.not ?_ | refine Gd.t ?_ | refine Gd.f ?_ | with_reducible refine Gd.var (fun _ => ?_) (fun _ => ?_)) <;> first | (exfalso; omega) | skip) | with_reducible refine Sq.mk ?_ | ((with_reducible show Ld1 _ _ _); first | refine Ld1.h H ?_ | refine Ld1.rF ?_ | refine Ld1.r ?_) | ((with_reducible show Ld _ _ _ _); first | refine Ld.h H ?_ | refine Ld.r ?_) | ((with_reducible show Ix _ _ _ _ _); (first | refine Ix.h ?_ | refine Ix.ha ?_)) | (refine Al.hp H ?_; clear H; intro _ _ H _) | (refine St.h H ?_; clear H; intro _ H))
  refine Sm.lith (cs := FE.enc (⟨0, 1, 0, [⟨9, 1, 0, 0, 0⟩]⟩, some ⟨p3, 0, none⟩, 1)) H T.ok (fun p4 w4 H _ => ?_)
  repeat' ((conv => whnf); first | (((with_reducible show Gd _ _ _); first | with_reducible refine Gd.t ?_ | with_reducible refine Gd.f ?_ | with_reducible refine Gd.dec (fun _ => ?_) (fun _ => ?_) | with_reducible refine Gd.beq (fun _ => ?_) (fun _ => ?_) | with_reducible refine Gd.bne (fun _ => ?_) (fun _ => ?_) | with_reducible refine Gd.not ?_ | refine Gd.t ?_ | refine Gd.f ?_ | with_reducible refine Gd.var (fun _ => ?_) (fun _ => ?_)) <;> first | (exfalso; omega) | skip) | with_reducible refine Sq.mk ?_ | ((with_reducible show Ld1 _ _ _); first | refine Ld1.h H ?_ | refine Ld1.rF ?_ | refine Ld1.r ?_) | ((with_reducible show Ld _ _ _ _); first | refine Ld.h H ?_ | refine Ld.r ?_) | ((with_reducible show Ix _ _ _ _ _); (first | refine Ix.h ?_ | refine Ix.ha ?_)) | (refine Al.hp H ?_; clear H; intro _ _ H _) | (refine St.h H ?_; clear H; intro _ H))
  have hP1 : RdP _ (some ⟨p4, 0, none⟩) [((⟨0, 1, 0, [⟨9, 1, 0, 0, 0⟩]⟩, some ⟨p3, 0, none⟩, 1) : FE)] := ⟨rd_full (H.blk 0 rfl) (fun _ _ => rfl), fun x hx => by simp at hx; subst hx; exact rd_full (H.blk 1 rfl) (fun _ _ => rfl)⟩
  have hc1 := Check_c _ _ 1 _ (RdS.from H.e hG) hP1
  have hv1 : checkL (fns [((⟨0, 1, 0, [⟨9, 1, 0, 0, 0⟩]⟩, some ⟨p3, 0, none⟩, 1) : FE)]) = (52, 0, 0) := by
    simp [checkL, fns, fs1, shapedB, ins1, insG, aloneB, belowB, calledB, endsB]
  rw [hv1] at hc1
  (((conv => whnf); refine Cl.mk (hc1) ?_); rintro _ _ ⟨rfl, hx⟩; replace H := H.ext hx; clear hx)
  clear hc1 hP1 hv1
  repeat' ((conv => whnf); first | (((with_reducible show Gd _ _ _); first | with_reducible refine Gd.t ?_ | with_reducible refine Gd.f ?_ | with_reducible refine Gd.dec (fun _ => ?_) (fun _ => ?_) | with_reducible refine Gd.beq (fun _ => ?_) (fun _ => ?_) | with_reducible refine Gd.bne (fun _ => ?_) (fun _ => ?_) | with_reducible refine Gd.not ?_ | refine Gd.t ?_ | refine Gd.f ?_ | with_reducible refine Gd.var (fun _ => ?_) (fun _ => ?_)) <;> first | (exfalso; omega) | skip) | with_reducible refine Sq.mk ?_ | ((with_reducible show Ld1 _ _ _); first | refine Ld1.h H ?_ | refine Ld1.rF ?_ | refine Ld1.r ?_) | ((with_reducible show Ld _ _ _ _); first | refine Ld.h H ?_ | refine Ld.r ?_) | ((with_reducible show Ix _ _ _ _ _); (first | refine Ix.h ?_ | refine Ix.ha ?_)) | (refine Al.hp H ?_; clear H; intro _ _ H _) | (refine St.h H ?_; clear H; intro _ H))
  exact ⟨rfl, H.e⟩
end Go.Proofs.YtbbadmlekagloaaDoor
