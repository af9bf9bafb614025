/- layer prog: the program's Check; own work. -/
import Derived.Test.YtbbadmlekagloaaDoorPhB
namespace Go.Proofs.YtbbadmlekagloaaDoor
open Go Go.Sh
set_option linter.unusedVariables false
set_option linter.unusedSimpArgs false
attribute [local irreducible] Blk Ext RdS
/-- the first that answers, with its number -/
def fs1 {α β : Type} (g : Nat → α → Option β) : List α → Nat → Option (Nat × β)
  | [], _ => none
  | x :: r, i => match g i x with
    | some b => some (i, b)
    | none => fs1 g r (i + 1)
theorem fs1_yes {α β : Type} {g : Nat → α → Option β} {l : List α} {i j : Nat} {x : α} {b : β} (h : l[i]? = some x) (hg : g j x = some b) : fs1 g (l.drop i) j = some (j, b) := by
  obtain ⟨h1, h2⟩ := List.getElem?_eq_some_iff.1 h
  rw [List.drop_eq_getElem_cons h1, h2]
  simp [fs1, hg]
theorem fs1_no {α β : Type} {g : Nat → α → Option β} {l : List α} {i j : Nat} {x : α} (h : l[i]? = some x) (hg : g j x = none) : fs1 g (l.drop i) j = fs1 g (l.drop (i + 1)) (j + 1) := by
  obtain ⟨h1, h2⟩ := List.getElem?_eq_some_iff.1 h
  rw [List.drop_eq_getElem_cons h1, h2]
  simp [fs1, hg]
theorem fs1_end {α β : Type} {g : Nat → α → Option β} {l : List α} {i : Nat} (h : l.length ≤ i) (j : Nat) : fs1 g (l.drop i) j = none := by
  rw [List.drop_of_length_le h]; rfl
def insG (fs : List Fn) (f : Fn) (_ : Nat) (c : Ins) : Option Unit := if aloneB f c && calledB fs f c then none else some ()
def ins1 (fs : List Fn) (f : Fn) : Option (Int × Nat) := match fs1 (insG fs f) f.code 0 with
  | some (k, _) => some (52, k)
  | none => if endsB f then none else some (53, f.code.length - 1)
noncomputable def slotG (f : Fn) (k : Nat) (c : Ins) : Option Int := if rowFault c (rowL f.slots.toNat (flwG f k)) = 0 then none else some (rowFault c (rowL f.slots.toNat (flwG f k)))
noncomputable def slot1 (f : Fn) : Option (Int × Nat) := (fs1 (slotG f) f.code 0).map fun x => (x.2, x.1)
/-- what Check answers: the error, the function, the place -/
noncomputable def checkL (fs : List Fn) : Int × Nat × Nat :=
  if fs.length < 1 ∨ 32 < fs.length then (50, 0, 0) else
  match fs1 (fun _ f => if shapedB f then none else some ()) fs 0 with
  | some (i, _) => (51, i, 0)
  | none => match fs1 (fun _ f => ins1 fs f) fs 0 with
    | some (i, e, k) => (e, i, k)
    | none => match fs1 (fun _ f => slot1 f) fs 0 with
      | some (i, e, k) => (e, i, k)
      | none => (0, 0, 0)
def fv3 (e : Int) (i k : Nat) : Value := .agg #[.int .i64 e, .int .i64 i, .int .i64 k]
def fvV (x : Int × Nat × Nat) : Value := fv3 x.1 x.2.1 x.2.2
theorem instructions_c (n : Nat) (f : Fn) (A : Option Addr) (c : Nat) (B : Option Addr) (l : List FE) (d : Nat) (w : World) (hG : RdG w) (hA : RdC w A f.code) (hB : RdS FE.enc 4 w B l) (hne : l ≠ []) (hll : l.length ≤ 32) (hf : shapedB f = true) (hs : ∀ y ∈ l, 0 ≤ y.1.params ∧ y.1.params ≤ 8) :
    Cl Tryd.prog 66 #[.int .i64 (n : Int), f.v A c, .slice B l.length d] w (fun _ w' => ins1 (fns l) f = none ∧ Ext w w')
      (fun ch w' => ∃ e k, ins1 (fns l) f = some (e, k) ∧ ch = [{ v := .iface 92 (fv3 e n k), recovered := false }] ∧ Ext w w') := by
  obtain ⟨hl1, hl2⟩ := shaped_len hf
  have hr : 1 ≤ f.regs ∧ f.regs ≤ 16 := by simp only [shapedB, decide_eq_true_eq] at hf; omega
  have hwl : IntKind.i64.wrap ((f.code.length : Int) - 1) = ((f.code.length - 1 : Nat) : Int) := w64 (by omega) (by omega) (by omega)
  refine calls_ex (args := [.int .i64 (n : Int), f.v A c, .slice B l.length d]) T.ok Tryd.func66 rfl rfl rfl rfl ?_
  have H := Hp.begin nw w
  refine Sq.mk ?_
  ((conv => whnf); refine Al.hp H ?_; clear H; intro pf _ H _)
  repeat' ((conv => whnf); first | (((with_reducible show Gd _ _ _); first | with_reducible refine Gd.t ?_ | with_reducible refine Gd.f ?_ | with_reducible refine Gd.dec (fun _ => ?_) (fun _ => ?_) | with_reducible refine Gd.beq (fun _ => ?_) (fun _ => ?_) | with_reducible refine Gd.bne (fun _ => ?_) (fun _ => ?_) | with_reducible refine Gd.not ?_ | refine Gd.t ?_ | refine Gd.f ?_ | with_reducible refine Gd.var (fun _ => ?_) (fun _ => ?_)) <;> first | (exfalso; omega) | skip) | with_reducible refine Sq.mk ?_ | ((with_reducible show Ld1 _ _ _); first | refine Ld1.h H ?_ | refine Ld1.rF ?_ | refine Ld1.r ?_) | ((with_reducible show Ld _ _ _ _); first | refine Ld.h H ?_ | refine Ld.r ?_) | ((with_reducible show Ix _ _ _ _ _); (first | refine Ix.h ?_ | refine Ix.ha ?_)) | (refine Al.hp H ?_; clear H; intro _ _ H _) | (refine St.h H ?_; clear H; intro _ H))
  refine Lp.g0 T.ok (σ := Nat) (fun i => [(11, .int .i64 (i : Int)), (10, .int .i64 (f.code.length : Int)), (9, .slice A f.code.length c), (4, .pointer (some ⟨pf, 0, none⟩)), (2, .slice B l.length d), (0, .int .i64 (n : Int))])
    (fun i w' => i ≤ f.code.length ∧ fs1 (insG (fns l) f) f.code 0 = fs1 (insG (fns l) f) (f.code.drop i) i ∧ Hp nw w w' [bk pf 24 (f.v A c).cells.toList]) (fun i _ => f.code.length - i) 0 rfl ⟨rfl, rfl, rfl, rfl, rfl, rfl, trivial⟩ ⟨Nat.zero_le _, rfl, H⟩ ?_
  clear H
  rintro i w5 ⟨hi, hfs, H⟩
  by_cases hlt : i < f.code.length
  · obtain ⟨x, hx⟩ : ∃ x, f.code[i]? = some x := ⟨_, List.getElem?_eq_getElem hlt⟩
    have hA5 := RdS.from H.e hA
    repeat' (first | ((conv => whnf); first | (((with_reducible show Gd _ _ _); first | with_reducible refine Gd.t ?_ | with_reducible refine Gd.f ?_ | with_reducible refine Gd.dec (fun _ => ?_) (fun _ => ?_) | with_reducible refine Gd.beq (fun _ => ?_) (fun _ => ?_) | with_reducible refine Gd.bne (fun _ => ?_) (fun _ => ?_) | with_reducible refine Gd.not ?_ | refine Gd.t ?_ | refine Gd.f ?_ | with_reducible refine Gd.var (fun _ => ?_) (fun _ => ?_)) <;> first | (exfalso; omega) | skip) | with_reducible refine Sq.mk ?_ | ((with_reducible show Ld1 _ _ _); first | refine Ld1.h H ?_ | refine Ld1.rF ?_ | refine Ld1.r ?_) | ((with_reducible show Ld _ _ _ _); first | refine Ld.h H ?_ | refine Ld.r ?_) | ((with_reducible show Ix _ _ _ _ _); (first | refine Ix.h ?_ | refine Ix.ha ?_)) | (refine Al.hp H ?_; clear H; intro _ _ H _) | (refine St.h H ?_; clear H; intro _ H)) | (((conv => whnf); refine Cl.mk (instrOK_all f A c x B l d _ (RdS.from H.e hG) (RdS.from H.e hB) hne hll hr hs) ?_); rintro _ _ ⟨rfl, hx⟩; replace H := H.ext hx; clear hx))
    · rename_i hb
      have hg : insG (fns l) f i x = none := by rw [insG, hb]; rfl
      rw [fs1_no hx hg] at hfs
      exact ⟨i + 1, ⟨at_int (m := ((i + 1 : Nat) : Int)) rfl (w64 (by simp) (by omega) (by omega)), rfl, rfl, rfl, rfl, rfl, trivial⟩, rfl, ⟨by omega, hfs, H.d0⟩, by omega⟩
    · rename_i hb
      have hg : insG (fns l) f i x = some () := by rw [insG, hb]; rfl
      have hy := fs1_yes (j := i) hx hg
      rw [hy] at hfs
      exact ⟨52, i, by simp only [ins1, hfs], rfl, H.e⟩
  · have hi : i = f.code.length := by omega
    subst hi
    rw [fs1_end (Nat.le_refl _)] at hfs
    repeat' (first | ((conv => whnf); first | (((with_reducible show Gd _ _ _); first | with_reducible refine Gd.t ?_ | with_reducible refine Gd.f ?_ | with_reducible refine Gd.dec (fun _ => ?_) (fun _ => ?_) | with_reducible refine Gd.beq (fun _ => ?_) (fun _ => ?_) | with_reducible refine Gd.bne (fun _ => ?_) (fun _ => ?_) | with_reducible refine Gd.not ?_ | refine Gd.t ?_ | refine Gd.f ?_ | with_reducible refine Gd.var (fun _ => ?_) (fun _ => ?_)) <;> first | (exfalso; omega) | skip) | with_reducible refine Sq.mk ?_ | ((with_reducible show Ld1 _ _ _); first | refine Ld1.h H ?_ | refine Ld1.rF ?_ | refine Ld1.r ?_) | ((with_reducible show Ld _ _ _ _); first | refine Ld.h H ?_ | refine Ld.r ?_) | ((with_reducible show Ix _ _ _ _ _); (first | refine Ix.h ?_ | refine Ix.ha ?_)) | (refine Al.hp H ?_; clear H; intro _ _ H _) | (refine St.h H ?_; clear H; intro _ H)) | (((conv => whnf); refine Cl.mk (lastOK_c f A c _ (RdS.from H.e hA) hl1 hl2) ?_); rintro _ _ ⟨rfl, hx⟩; replace H := H.ext hx; clear hx))
    · rename_i hb
      exact ⟨by rw [ins1, hfs]; simp [hb], H.e⟩
    · rename_i hb
      exact ⟨53, f.code.length - 1, by rw [ins1, hfs]; simp [hb], by rw [hwl]; rfl, H.e⟩
theorem sound_at {f : Fn} (hS : soundB f = true) {i : Nat} {x : Ins} (hx : f.code[i]? = some x) : (x.kd = 5 → 0 ≤ x.a ∧ x.a < f.slots) ∧ (x.kd = 7 → 0 ≤ x.b ∧ x.b < f.slots) := by
  simp only [soundB, Bool.and_eq_true, List.all_eq_true] at hS
  have h := hS.1.2 x (List.mem_of_getElem? hx)
  refine ⟨fun h5 => ?_, fun h7 => ?_⟩
  · simpa [aloneB, h5, belowB] using h
  · have := h; simp [aloneB, h7, belowB] at this; exact this.2
set_option maxHeartbeats 1000000 in
theorem slots_c (n : Nat) (f : Fn) (A : Option Addr) (c : Nat) (w : World) (hG : RdG w) (hA : RdC w A f.code) (hS : soundB f = true) :
    Cl Tryd.prog 67 #[.int .i64 (n : Int), f.v A c] w (fun _ w' => slot1 f = none ∧ Ext w w')
      (fun ch w' => ∃ e k, slot1 f = some (e, k) ∧ ch = [{ v := .iface 92 (fv3 e n k), recovered := false }] ∧ Ext w w') := by
  have hsh : shapedB f = true := by simp only [soundB, Bool.and_eq_true] at hS; exact hS.1.1
  obtain ⟨hl1, hl2⟩ := shaped_len hsh
  obtain ⟨m, hm, hm8⟩ := slots_nat hsh
  have hmt : f.slots.toNat = m := by omega
  refine calls_ex (args := [.int .i64 (n : Int), f.v A c]) T.ok Tryd.func67 rfl rfl rfl rfl ?_
  have H := Hp.begin nw w
  refine Sq.mk ?_
  ((conv => whnf); refine Al.hp H ?_; clear H; intro pf _ H _)
  repeat' ((conv => whnf); first | (((with_reducible show Gd _ _ _); first | with_reducible refine Gd.t ?_ | with_reducible refine Gd.f ?_ | with_reducible refine Gd.dec (fun _ => ?_) (fun _ => ?_) | with_reducible refine Gd.beq (fun _ => ?_) (fun _ => ?_) | with_reducible refine Gd.bne (fun _ => ?_) (fun _ => ?_) | with_reducible refine Gd.not ?_ | refine Gd.t ?_ | refine Gd.f ?_ | with_reducible refine Gd.var (fun _ => ?_) (fun _ => ?_)) <;> first | (exfalso; omega) | skip) | with_reducible refine Sq.mk ?_ | ((with_reducible show Ld1 _ _ _); first | refine Ld1.h H ?_ | refine Ld1.rF ?_ | refine Ld1.r ?_) | ((with_reducible show Ld _ _ _ _); first | refine Ld.h H ?_ | refine Ld.r ?_) | ((with_reducible show Ix _ _ _ _ _); (first | refine Ix.h ?_ | refine Ix.ha ?_)) | (refine Al.hp H ?_; clear H; intro _ _ H _) | (refine St.h H ?_; clear H; intro _ H))
  ((conv => whnf); refine Cl.mk (states_c f A c m _ (RdS.from H.e hA) (RdS.from H.e hG) hS hm hm8) ?_)
  rintro _ w2 ⟨p, ps, rfl, hpl2, hM, e⟩
  replace H := H.fr0 (mx_new hM e) (.inl rfl)
  clear hM e
  obtain ⟨bb, H⟩ : ∃ bb, Hp nw w w2 [mxk bb p f.code.length m ps (flwG f), bk pf 24 (f.v A c).cells.toList] := ⟨_, H⟩
  repeat' ((conv => whnf); first | (((with_reducible show Gd _ _ _); first | with_reducible refine Gd.t ?_ | with_reducible refine Gd.f ?_ | with_reducible refine Gd.dec (fun _ => ?_) (fun _ => ?_) | with_reducible refine Gd.beq (fun _ => ?_) (fun _ => ?_) | with_reducible refine Gd.bne (fun _ => ?_) (fun _ => ?_) | with_reducible refine Gd.not ?_ | refine Gd.t ?_ | refine Gd.f ?_ | with_reducible refine Gd.var (fun _ => ?_) (fun _ => ?_)) <;> first | (exfalso; omega) | skip) | with_reducible refine Sq.mk ?_ | ((with_reducible show Ld1 _ _ _); first | refine Ld1.h H ?_ | refine Ld1.rF ?_ | refine Ld1.r ?_) | ((with_reducible show Ld _ _ _ _); first | refine Ld.h H ?_ | refine Ld.r ?_) | ((with_reducible show Ix _ _ _ _ _); (first | refine Ix.h ?_ | refine Ix.ha ?_)) | (refine Al.hp H ?_; clear H; intro _ _ H _) | (refine St.h H ?_; clear H; intro _ H))
  refine Lp.g0 T.ok (σ := Nat) (fun i => [(15, .int .i64 (i : Int)), (14, .int .i64 (f.code.length : Int)), (13, .slice A f.code.length c), (4, .slice (some ⟨p, 0, none⟩) f.code.length f.code.length), (3, .pointer (some ⟨pf, 0, none⟩)), (0, .int .i64 (n : Int))])
    (fun i w' => i ≤ f.code.length ∧ fs1 (slotG f) f.code 0 = fs1 (slotG f) (f.code.drop i) i ∧ Hp nw w w' [mxk bb p f.code.length m ps (flwG f), bk pf 24 (f.v A c).cells.toList]) (fun i _ => f.code.length - i) 0 rfl ⟨rfl, rfl, rfl, rfl, rfl, rfl, trivial⟩ ⟨Nat.zero_le _, rfl, H⟩ ?_
  clear H
  rintro i w5 ⟨hi, hfs, H⟩
  by_cases hlt : i < f.code.length
  · obtain ⟨x, hx⟩ : ∃ x, f.code[i]? = some x := ⟨_, List.getElem?_eq_getElem hlt⟩
    obtain ⟨q, hq⟩ : ∃ q, ps[i]? = some q := ⟨_, List.getElem?_eq_getElem (by omega)⟩
    obtain ⟨h5, h7⟩ := sound_at hS hx
    have hA5 := RdS.from H.e hA
    have hgo : rowFault x (rowL m (flwG f i)) = 0 → fs1 (slotG f) f.code 0 = fs1 (slotG f) (f.code.drop (i + 1)) (i + 1) := fun h0 => by
      rw [hfs, fs1_no hx]
      simp only [slotG, hmt]; rw [if_pos h0]
    have hstop : rowFault x (rowL m (flwG f i)) ≠ 0 → slot1 f = some (rowFault x (rowL m (flwG f i)), i) := fun h0 => by
      have hg : slotG f i x = some (rowFault x (rowL m (flwG f i))) := by simp only [slotG, hmt]; rw [if_neg h0]
      rw [slot1, hfs, fs1_yes hx hg]; rfl
    repeat' ((conv => whnf); first | (((with_reducible show Gd _ _ _); first | with_reducible refine Gd.t ?_ | with_reducible refine Gd.f ?_ | with_reducible refine Gd.dec (fun _ => ?_) (fun _ => ?_) | with_reducible refine Gd.beq (fun _ => ?_) (fun _ => ?_) | with_reducible refine Gd.bne (fun _ => ?_) (fun _ => ?_) | with_reducible refine Gd.not ?_ | refine Gd.t ?_ | refine Gd.f ?_ | with_reducible refine Gd.var (fun _ => ?_) (fun _ => ?_)) <;> first | (exfalso; omega) | skip) | with_reducible refine Sq.mk ?_ | ((with_reducible show Ld1 _ _ _); first | refine Ld1.h H ?_ | refine Ld1.rF ?_ | refine Ld1.r ?_) | ((with_reducible show Ld _ _ _ _); first | refine Ld.h H ?_ | refine Ld.r ?_) | ((with_reducible show Ix _ _ _ _ _); (first | refine Ix.h ?_ | refine Ix.ha ?_)) | (refine St.h H ?_; clear H; intro _ H))
    ((conv => whnf); refine Al.hp H ?_; clear H; intro pc _ H _)
    repeat' ((conv => whnf); first | (((with_reducible show Gd _ _ _); first | with_reducible refine Gd.t ?_ | with_reducible refine Gd.f ?_ | with_reducible refine Gd.dec (fun _ => ?_) (fun _ => ?_) | with_reducible refine Gd.beq (fun _ => ?_) (fun _ => ?_) | with_reducible refine Gd.bne (fun _ => ?_) (fun _ => ?_) | with_reducible refine Gd.not ?_ | refine Gd.t ?_ | refine Gd.f ?_ | with_reducible refine Gd.var (fun _ => ?_) (fun _ => ?_)) <;> first | (exfalso; omega) | skip) | with_reducible refine Sq.mk ?_ | ((with_reducible show Ld1 _ _ _); first | refine Ld1.h H ?_ | refine Ld1.rF ?_ | refine Ld1.r ?_) | ((with_reducible show Ld _ _ _ _); first | refine Ld.h H ?_ | refine Ld.r ?_) | ((with_reducible show Ix _ _ _ _ _); (first | refine Ix.h ?_ | refine Ix.ha ?_)) | (refine Al.hp H ?_; clear H; intro _ _ H _) | (refine St.h H ?_; clear H; intro _ H))
    · -- a spawn
      have hM : Mx _ bb p f.code.length m ps (flwG f) := H.atC 1 rfl
      have hr := hM.rd (by omega)
      have hat := hM.at hq
      have hrow := rd_full (hM.row i q hq) (fun _ _ => rfl)
      have hlen := hM.len
      have hlen2 := rowL_len m (flwG f i)
      obtain ⟨s, hs⟩ : ∃ s : Nat, x.a = s := ⟨x.a.toNat, by have := h5 (by assumption); omega⟩
      have hsm : s < m := by have := h5 (by assumption); omega
      have hg := rowL_at (g := flwG f i) hsm
      have hgt : (rowL m (flwG f i))[x.a.toNat]?.getD 0 = flwG f i s := by rw [hs]; simp [hg]
      ((conv => whnf); refine Dr.quiet T.ok mixed (by kernel_rfl) (fun W hW => ?_))
      repeat' ((conv => whnf); first | (((with_reducible show Gd _ _ _); first | with_reducible refine Gd.t ?_ | with_reducible refine Gd.f ?_ | with_reducible refine Gd.dec (fun _ => ?_) (fun _ => ?_) | with_reducible refine Gd.beq (fun _ => ?_) (fun _ => ?_) | with_reducible refine Gd.bne (fun _ => ?_) (fun _ => ?_) | with_reducible refine Gd.not ?_ | refine Gd.t ?_ | refine Gd.f ?_ | with_reducible refine Gd.var (fun _ => ?_) (fun _ => ?_)) <;> first | (exfalso; omega) | skip) | ((with_reducible show QLd1 _ _ _); first | refine QLd1.h hW H ?_ | refine QLd1.rF hW ?_ | refine QLd1.r hW ?_) | ((with_reducible show QLd _ _ _ _); first | refine QLd.h hW H ?_ | refine QLd.r hW ?_) | ((with_reducible show Ix _ _ _ _ _); (first | refine Ix.h ?_ | refine Ix.ha ?_)))
      (intro _ eT; replace H := H.ext eT; clear hW eT)
      clear hr hrow
      repeat' ((conv => whnf); first | (((with_reducible show Gd _ _ _); first | with_reducible refine Gd.t ?_ | with_reducible refine Gd.f ?_ | with_reducible refine Gd.dec (fun _ => ?_) (fun _ => ?_) | with_reducible refine Gd.beq (fun _ => ?_) (fun _ => ?_) | with_reducible refine Gd.bne (fun _ => ?_) (fun _ => ?_) | with_reducible refine Gd.not ?_ | refine Gd.t ?_ | refine Gd.f ?_ | with_reducible refine Gd.var (fun _ => ?_) (fun _ => ?_)) <;> first | (exfalso; omega) | skip) | with_reducible refine Sq.mk ?_ | ((with_reducible show Ld1 _ _ _); first | refine Ld1.h H ?_ | refine Ld1.rF ?_ | refine Ld1.r ?_) | ((with_reducible show Ld _ _ _ _); first | refine Ld.h H ?_ | refine Ld.r ?_) | ((with_reducible show Ix _ _ _ _ _); (first | refine Ix.h ?_ | refine Ix.ha ?_)) | (refine Al.hp H ?_; clear H; intro _ _ H _) | (refine St.h H ?_; clear H; intro _ H))
      all_goals first | (exfalso; omega) | skip
      · have hv : rowFault x (rowL m (flwG f i)) = 54 := by rw [rowFault, if_pos (by assumption), hgt]; exact if_pos (by assumption)
        exact ⟨54, i, by rw [← hv]; exact hstop (by rw [hv]; decide), rfl, H.e⟩
      · have hv : rowFault x (rowL m (flwG f i)) = 0 := by rw [rowFault, if_pos (by assumption), hgt]; exact if_neg (fun hne => hne (by assumption))
        exact ⟨i + 1, ⟨at_int (m := ((i + 1 : Nat) : Int)) rfl (w64 (by simp) (by omega) (by omega)), rfl, rfl, rfl, rfl, rfl, trivial⟩, rfl, ⟨by omega, hgo hv, H.d0⟩, by omega⟩
    · -- a load
      have hM : Mx _ bb p f.code.length m ps (flwG f) := H.atC 1 rfl
      have hr := hM.rd (by omega)
      have hat := hM.at hq
      have hrow := rd_full (hM.row i q hq) (fun _ _ => rfl)
      have hlen := hM.len
      have hlen2 := rowL_len m (flwG f i)
      obtain ⟨s, hs⟩ : ∃ s : Nat, x.b = s := ⟨x.b.toNat, by have := h7 (by assumption); omega⟩
      have hsm : s < m := by have := h7 (by assumption); omega
      have hg := rowL_at (g := flwG f i) hsm
      have hgt : (rowL m (flwG f i))[x.b.toNat]?.getD 0 = flwG f i s := by rw [hs]; simp [hg]
      ((conv => whnf); refine Dr.quiet T.ok mixed (by kernel_rfl) (fun W hW => ?_))
      repeat' ((conv => whnf); first | (((with_reducible show Gd _ _ _); first | with_reducible refine Gd.t ?_ | with_reducible refine Gd.f ?_ | with_reducible refine Gd.dec (fun _ => ?_) (fun _ => ?_) | with_reducible refine Gd.beq (fun _ => ?_) (fun _ => ?_) | with_reducible refine Gd.bne (fun _ => ?_) (fun _ => ?_) | with_reducible refine Gd.not ?_ | refine Gd.t ?_ | refine Gd.f ?_ | with_reducible refine Gd.var (fun _ => ?_) (fun _ => ?_)) <;> first | (exfalso; omega) | skip) | ((with_reducible show QLd1 _ _ _); first | refine QLd1.h hW H ?_ | refine QLd1.rF hW ?_ | refine QLd1.r hW ?_) | ((with_reducible show QLd _ _ _ _); first | refine QLd.h hW H ?_ | refine QLd.r hW ?_) | ((with_reducible show Ix _ _ _ _ _); (first | refine Ix.h ?_ | refine Ix.ha ?_)))
      (intro _ eT; replace H := H.ext eT; clear hW eT)
      clear hr hrow
      repeat' ((conv => whnf); first | (((with_reducible show Gd _ _ _); first | with_reducible refine Gd.t ?_ | with_reducible refine Gd.f ?_ | with_reducible refine Gd.dec (fun _ => ?_) (fun _ => ?_) | with_reducible refine Gd.beq (fun _ => ?_) (fun _ => ?_) | with_reducible refine Gd.bne (fun _ => ?_) (fun _ => ?_) | with_reducible refine Gd.not ?_ | refine Gd.t ?_ | refine Gd.f ?_ | with_reducible refine Gd.var (fun _ => ?_) (fun _ => ?_)) <;> first | (exfalso; omega) | skip) | with_reducible refine Sq.mk ?_ | ((with_reducible show Ld1 _ _ _); first | refine Ld1.h H ?_ | refine Ld1.rF ?_ | refine Ld1.r ?_) | ((with_reducible show Ld _ _ _ _); first | refine Ld.h H ?_ | refine Ld.r ?_) | ((with_reducible show Ix _ _ _ _ _); (first | refine Ix.h ?_ | refine Ix.ha ?_)) | (refine Al.hp H ?_; clear H; intro _ _ H _) | (refine St.h H ?_; clear H; intro _ H))
      all_goals first | (exfalso; omega) | skip
      · have hv : rowFault x (rowL m (flwG f i)) = 55 := by rw [rowFault, if_neg (by assumption), if_pos (by assumption), hgt]; exact if_pos (by assumption)
        exact ⟨55, i, by rw [← hv]; exact hstop (by rw [hv]; decide), rfl, H.e⟩
      · have hv : rowFault x (rowL m (flwG f i)) = 0 := by rw [rowFault, if_neg (by assumption), if_pos (by assumption), hgt]; exact if_neg (fun hne => hne (by assumption))
        exact ⟨i + 1, ⟨at_int (m := ((i + 1 : Nat) : Int)) rfl (w64 (by simp) (by omega) (by omega)), rfl, rfl, rfl, rfl, rfl, trivial⟩, rfl, ⟨by omega, hgo hv, H.d0⟩, by omega⟩
    · -- a return
      have hM : Mx _ bb p f.code.length m ps (flwG f) := H.atC 1 rfl
      have hr := hM.rd (by omega)
      have hat := hM.at hq
      have hrow := rd_full (hM.row i q hq) (fun _ _ => rfl)
      have hlen := hM.len
      have hlen2 := rowL_len m (flwG f i)
      repeat' ((conv => whnf); first | (((with_reducible show Gd _ _ _); first | with_reducible refine Gd.t ?_ | with_reducible refine Gd.f ?_ | with_reducible refine Gd.dec (fun _ => ?_) (fun _ => ?_) | with_reducible refine Gd.beq (fun _ => ?_) (fun _ => ?_) | with_reducible refine Gd.bne (fun _ => ?_) (fun _ => ?_) | with_reducible refine Gd.not ?_ | refine Gd.t ?_ | refine Gd.f ?_ | with_reducible refine Gd.var (fun _ => ?_) (fun _ => ?_)) <;> first | (exfalso; omega) | skip) | with_reducible refine Sq.mk ?_ | ((with_reducible show Ld1 _ _ _); first | refine Ld1.h H ?_ | refine Ld1.rF ?_ | refine Ld1.r ?_) | ((with_reducible show Ld _ _ _ _); first | refine Ld.h H ?_ | refine Ld.r ?_) | ((with_reducible show Ix _ _ _ _ _); (first | refine Ix.h ?_ | refine Ix.ha ?_)) | (refine Al.hp H ?_; clear H; intro _ _ H _) | (refine St.h H ?_; clear H; intro _ H))
      clear hr hrow hM
      refine Lp.g0 T.ok (σ := Nat) (fun k => [(53, .int .i64 (k : Int)), (52, .int .i64 ((rowL m (flwG f i)).length : Int)), (51, .slice (some ⟨q, 0, none⟩) (rowL m (flwG f i)).length (rowL m (flwG f i)).length), (7, .int .i64 (if ((rowL m (flwG f i)).take k).any (fun m => decide (bitand m 2 ≠ 0)) then 56 else 0)),
          (15, .int .i64 (i : Int)), (14, .int .i64 (f.code.length : Int)), (13, .slice A f.code.length c), (6, .pointer (some ⟨pc, 0, none⟩)), (5, .int .i64 (i : Int)), (4, .slice (some ⟨p, 0, none⟩) f.code.length f.code.length), (3, .pointer (some ⟨pf, 0, none⟩)), (0, .int .i64 (n : Int))])
        (fun k w' => k ≤ (rowL m (flwG f i)).length ∧ Hp nw w w' [bk pc 35 x.enc, mxk bb p f.code.length m ps (flwG f), bk pf 24 (f.v A c).cells.toList]) (fun k _ => (rowL m (flwG f i)).length - k) 0 rfl
        ⟨rfl, at_int rfl (by rw [hlen2]), at_val rfl (by rw [hlen2]; rfl), rfl, rfl, rfl, rfl, rfl, rfl, rfl, rfl, rfl, trivial⟩ ⟨Nat.zero_le _, H⟩ ?_
      clear H
      rintro k w6 ⟨hk, H⟩
      have hM : Mx _ bb p f.code.length m ps (flwG f) := H.atC 1 rfl
      have hrow := rd_full (hM.row i q hq) (fun _ _ => rfl)
      by_cases hkl : k < (rowL m (flwG f i)).length
      · obtain ⟨y, hy⟩ : ∃ y, (rowL m (flwG f i))[k]? = some y := ⟨_, List.getElem?_eq_getElem hkl⟩
        have hst := any_step (p := fun m => decide (bitand m 2 ≠ 0)) hy
        repeat' ((conv => whnf); first | (((with_reducible show Gd _ _ _); first | with_reducible refine Gd.t ?_ | with_reducible refine Gd.f ?_ | with_reducible refine Gd.dec (fun _ => ?_) (fun _ => ?_) | with_reducible refine Gd.beq (fun _ => ?_) (fun _ => ?_) | with_reducible refine Gd.bne (fun _ => ?_) (fun _ => ?_) | with_reducible refine Gd.not ?_ | refine Gd.t ?_ | refine Gd.f ?_ | with_reducible refine Gd.var (fun _ => ?_) (fun _ => ?_)) <;> first | (exfalso; omega) | skip) | with_reducible refine Sq.mk ?_ | ((with_reducible show Ld1 _ _ _); first | refine Ld1.h H ?_ | refine Ld1.rF ?_ | refine Ld1.r ?_) | ((with_reducible show Ld _ _ _ _); first | refine Ld.h H ?_ | refine Ld.r ?_) | ((with_reducible show Ix _ _ _ _ _); (first | refine Ix.h ?_ | refine Ix.ha ?_)) | (refine Al.hp H ?_; clear H; intro _ _ H _) | (refine St.h H ?_; clear H; intro _ H))
        · refine ⟨k + 1, ⟨at_int rfl (w64 (by simp) (by omega) (by omega)), rfl, rfl, at_val rfl (i_eq ?_), rfl, rfl, rfl, rfl, rfl, rfl, rfl, rfl, trivial⟩, rfl, ⟨by omega, H⟩, by omega⟩
          rw [hst, decide_eq_true (by assumption), Bool.or_true]; rfl
        · refine ⟨k + 1, ⟨at_int rfl (w64 (by simp) (by omega) (by omega)), rfl, rfl, at_val rfl (i_eq ?_), rfl, rfl, rfl, rfl, rfl, rfl, rfl, rfl, trivial⟩, rfl, ⟨by omega, H⟩, by omega⟩
          rw [hst, decide_eq_false (fun hne => hne (by assumption)), Bool.or_false]
      · have hk : k = (rowL m (flwG f i)).length := by omega
        subst hk
        have hv : rowFault x (rowL m (flwG f i)) = if ((rowL m (flwG f i)).take (rowL m (flwG f i)).length).any (fun m => decide (bitand m 2 ≠ 0)) then 56 else 0 := by
          rw [rowFault, if_neg (by assumption), if_neg (by assumption), if_pos (by assumption), List.take_length]
        clear hM hrow
        repeat' ((conv => whnf); first | (((with_reducible show Gd _ _ _); first | with_reducible refine Gd.t ?_ | with_reducible refine Gd.f ?_ | with_reducible refine Gd.dec (fun _ => ?_) (fun _ => ?_) | with_reducible refine Gd.beq (fun _ => ?_) (fun _ => ?_) | with_reducible refine Gd.bne (fun _ => ?_) (fun _ => ?_) | with_reducible refine Gd.not ?_ | refine Gd.t ?_ | refine Gd.f ?_ | with_reducible refine Gd.var (fun _ => ?_) (fun _ => ?_)) <;> first | (exfalso; omega) | skip) | with_reducible refine Sq.mk ?_ | ((with_reducible show Ld1 _ _ _); first | refine Ld1.h H ?_ | refine Ld1.rF ?_ | refine Ld1.r ?_) | ((with_reducible show Ld _ _ _ _); first | refine Ld.h H ?_ | refine Ld.r ?_) | ((with_reducible show Ix _ _ _ _ _); (first | refine Ix.h ?_ | refine Ix.ha ?_)) | (refine Al.hp H ?_; clear H; intro _ _ H _) | (refine St.h H ?_; clear H; intro _ H))
        · rw [← hv]
          exact ⟨_, i, hstop (by rw [hv]; assumption), rfl, H.e⟩
        · exact ⟨i + 1, ⟨at_int (m := ((i + 1 : Nat) : Int)) rfl (w64 (by simp) (by omega) (by omega)), rfl, rfl, rfl, rfl, rfl, trivial⟩, rfl, ⟨by omega, hgo (by rw [hv]; assumption), H.d0⟩, by omega⟩
    · have hv : rowFault x (rowL m (flwG f i)) = 0 := by rw [rowFault, if_neg (by assumption), if_neg (by assumption), if_neg (by assumption)]
      repeat' ((conv => whnf); first | (((with_reducible show Gd _ _ _); first | with_reducible refine Gd.t ?_ | with_reducible refine Gd.f ?_ | with_reducible refine Gd.dec (fun _ => ?_) (fun _ => ?_) | with_reducible refine Gd.beq (fun _ => ?_) (fun _ => ?_) | with_reducible refine Gd.bne (fun _ => ?_) (fun _ => ?_) | with_reducible refine Gd.not ?_ | refine Gd.t ?_ | refine Gd.f ?_ | with_reducible refine Gd.var (fun _ => ?_) (fun _ => ?_)) <;> first | (exfalso; omega) | skip) | with_reducible refine Sq.mk ?_ | ((with_reducible show Ld1 _ _ _); first | refine Ld1.h H ?_ | refine Ld1.rF ?_ | refine Ld1.r ?_) | ((with_reducible show Ld _ _ _ _); first | refine Ld.h H ?_ | refine Ld.r ?_) | ((with_reducible show Ix _ _ _ _ _); (first | refine Ix.h ?_ | refine Ix.ha ?_)) | (refine Al.hp H ?_; clear H; intro _ _ H _) | (refine St.h H ?_; clear H; intro _ H))
      exact ⟨i + 1, ⟨at_int (m := ((i + 1 : Nat) : Int)) rfl (w64 (by simp) (by omega) (by omega)), rfl, rfl, rfl, rfl, rfl, trivial⟩, rfl, ⟨by omega, hgo hv, H.d0⟩, by omega⟩
  · have hi : i = f.code.length := by omega
    subst hi
    rw [fs1_end (Nat.le_refl _)] at hfs
    repeat' ((conv => whnf); first | (((with_reducible show Gd _ _ _); first | with_reducible refine Gd.t ?_ | with_reducible refine Gd.f ?_ | with_reducible refine Gd.dec (fun _ => ?_) (fun _ => ?_) | with_reducible refine Gd.beq (fun _ => ?_) (fun _ => ?_) | with_reducible refine Gd.bne (fun _ => ?_) (fun _ => ?_) | with_reducible refine Gd.not ?_ | refine Gd.t ?_ | refine Gd.f ?_ | with_reducible refine Gd.var (fun _ => ?_) (fun _ => ?_)) <;> first | (exfalso; omega) | skip) | with_reducible refine Sq.mk ?_ | ((with_reducible show Ld1 _ _ _); first | refine Ld1.h H ?_ | refine Ld1.rF ?_ | refine Ld1.r ?_) | ((with_reducible show Ld _ _ _ _); first | refine Ld.h H ?_ | refine Ld.r ?_) | ((with_reducible show Ix _ _ _ _ _); (first | refine Ix.h ?_ | refine Ix.ha ?_)) | (refine Al.hp H ?_; clear H; intro _ _ H _) | (refine St.h H ?_; clear H; intro _ H))
    exact ⟨by rw [slot1, hfs]; rfl, H.e⟩
end Go.Proofs.YtbbadmlekagloaaDoor
