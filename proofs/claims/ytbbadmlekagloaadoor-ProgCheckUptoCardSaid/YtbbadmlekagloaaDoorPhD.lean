/- layer prog: the program's Check: the face that recovers; own work. -/
import Derived.Test.YtbbadmlekagloaaDoorPhC
namespace Go.Proofs.YtbbadmlekagloaaDoor
open Go Go.Sh
set_option linter.unusedVariables false
set_option linter.unusedSimpArgs false
attribute [local irreducible] Blk Ext RdS
def wrongV (e : Int) (i k : Nat) : Value := .iface 92 (fv3 e i k)
theorem run_assert (x : Value) (w : World) : (Instr.typeAssert (.iface 92 x) 20 92 true).run Tryd.prog w = .ok (.tuple #[x, .bool true]) w := by kernel_rfl
theorem check1_ret (pr : Nat) (w : World) : DCl Tryd.prog 64 #[.pointer (some ⟨pr, 0, none⟩)] .returning w (fun u w' => u = .returning ∧ Ext w w') := by
  refine DCl.recov (args := [.pointer (some ⟨pr, 0, none⟩)]) T.ok Tryd.func64 rfl rfl rfl rfl (fun ρ w => rfl) rfl rfl rfl (.inl ⟨rfl, rfl, rfl⟩) ?_
  have H := Hp.begin nw w
  repeat' ((conv => whnf); first | (((with_reducible show Gd _ _ _); first | with_reducible refine Gd.t ?_ | with_reducible refine Gd.f ?_ | with_reducible refine Gd.dec (fun _ => ?_) (fun _ => ?_) | with_reducible refine Gd.beq (fun _ => ?_) (fun _ => ?_) | with_reducible refine Gd.bne (fun _ => ?_) (fun _ => ?_) | with_reducible refine Gd.not ?_ | refine Gd.t ?_ | refine Gd.f ?_ | with_reducible refine Gd.var (fun _ => ?_) (fun _ => ?_)) <;> first | (exfalso; omega) | skip) | with_reducible refine Sq.mk ?_ | ((with_reducible show Ld1 _ _ _); first | refine Ld1.h H ?_ | refine Ld1.rF ?_ | refine Ld1.r ?_) | ((with_reducible show Ld _ _ _ _); first | refine Ld.h H ?_ | refine Ld.r ?_) | ((with_reducible show Ix _ _ _ _ _); (first | refine Ix.h ?_ | refine Ix.ha ?_)) | (refine Al.hp H ?_; clear H; intro _ _ H _) | (refine St.h H ?_; clear H; intro _ H))
  exact ⟨rfl, rfl, H.e⟩
theorem check1_pan (e : Int) (i k pr : Nat) (cs : List Value) (w : World) (hb : Blk w pr 48 cs) (hl : cs.length = 3) :
    DCl Tryd.prog 64 #[.pointer (some ⟨pr, 0, none⟩)] (.panicking [{ v := wrongV e i k, recovered := false }]) w
      (fun u w' => u = .panicking [{ v := wrongV e i k, recovered := true }] ∧ Hp (· = pr) w w' [bk pr 48 (fv3 e i k).cells.toList]) := by
  obtain ⟨c0, c1, c2, rfl⟩ : ∃ a b c, cs = [a, b, c] := by
    match cs, hl with
    | [a, b, c], _ => exact ⟨a, b, c, rfl⟩
  refine DCl.recov (args := [.pointer (some ⟨pr, 0, none⟩)]) T.ok Tryd.func64 rfl rfl rfl rfl (fun ρ w => rfl) rfl rfl rfl (.inr ⟨_, rfl, rfl, rfl⟩) ?_
  have H := Hp.start (S := (· = pr)) (bk_ok hb) (fun k hk => hk)
  repeat' ((conv => whnf); first | (((with_reducible show Gd _ _ _); first | with_reducible refine Gd.t ?_ | with_reducible refine Gd.f ?_ | with_reducible refine Gd.dec (fun _ => ?_) (fun _ => ?_) | with_reducible refine Gd.beq (fun _ => ?_) (fun _ => ?_) | with_reducible refine Gd.bne (fun _ => ?_) (fun _ => ?_) | with_reducible refine Gd.not ?_ | refine Gd.t ?_ | refine Gd.f ?_ | with_reducible refine Gd.var (fun _ => ?_) (fun _ => ?_)) <;> first | (exfalso; omega) | skip) | with_reducible refine Sq.mk ?_ | ((with_reducible show Ld1 _ _ _); first | refine Ld1.h H ?_ | refine Ld1.rF ?_ | refine Ld1.r ?_) | ((with_reducible show Ld _ _ _ _); first | refine Ld.h H ?_ | refine Ld.r ?_) | ((with_reducible show Ix _ _ _ _ _); (first | refine Ix.h ?_ | refine Ix.ha ?_)) | (refine Al.hp H ?_; clear H; intro _ _ H _) | (refine St.h H ?_; clear H; intro _ H))
  refine Sm.ran (run_assert _ _) ?_
  repeat' ((conv => whnf); first | (((with_reducible show Gd _ _ _); first | with_reducible refine Gd.t ?_ | with_reducible refine Gd.f ?_ | with_reducible refine Gd.dec (fun _ => ?_) (fun _ => ?_) | with_reducible refine Gd.beq (fun _ => ?_) (fun _ => ?_) | with_reducible refine Gd.bne (fun _ => ?_) (fun _ => ?_) | with_reducible refine Gd.not ?_ | refine Gd.t ?_ | refine Gd.f ?_ | with_reducible refine Gd.var (fun _ => ?_) (fun _ => ?_)) <;> first | (exfalso; omega) | skip) | with_reducible refine Sq.mk ?_ | ((with_reducible show Ld1 _ _ _); first | refine Ld1.h H ?_ | refine Ld1.rF ?_ | refine Ld1.r ?_) | ((with_reducible show Ld _ _ _ _); first | refine Ld.h H ?_ | refine Ld.r ?_) | ((with_reducible show Ix _ _ _ _ _); (first | refine Ix.h ?_ | refine Ix.ha ?_)) | (refine Al.hp H ?_; clear H; intro _ _ H _) | (refine St.h H ?_; clear H; intro _ H))
  exact ⟨rfl, rfl, H.d0⟩
theorem shaped_all {l : List FE} (h : fs1 (fun _ f => if shapedB f then none else some ()) (fns l) 0 = none) : ∀ y ∈ l, shapedB y.1 = true := by
  have key : ∀ (m : List Fn) (j : Nat), fs1 (fun _ f => if shapedB f then none else some ()) m j = none → ∀ f ∈ m, shapedB f = true := by
    intro m
    induction m with
    | nil => simp
    | cons x r ih =>
      intro j h f hf
      by_cases hx : shapedB x = true
      · simp only [fs1, hx, if_true] at h
        rcases List.mem_cons.1 hf with rfl | hf
        · exact hx
        · exact ih _ h f hf
      · simp [fs1, hx] at h
  exact fun y hy => key _ 0 h _ (List.mem_map.2 ⟨y, hy, rfl⟩)
theorem ins_sound {fs : List Fn} {f : Fn} (hs : shapedB f = true) (h : ins1 fs f = none) : soundB f = true := by
  have key : ∀ (m : List Ins) (j : Nat), fs1 (insG fs f) m j = none → ∀ c ∈ m, aloneB f c = true := by
    intro m
    induction m with
    | nil => simp
    | cons x r ih =>
      intro j h c hc
      by_cases hx : (aloneB f x && calledB fs f x) = true
      · simp only [fs1, insG, hx, if_true] at h
        rcases List.mem_cons.1 hc with rfl | hc
        · exact (Bool.and_eq_true _ _ ▸ hx).1
        · exact ih _ h c hc
      · simp [fs1, insG, hx] at h
  unfold ins1 at h
  split at h
  · simp at h
  · rename_i h1
    split at h
    · rename_i h2
      simp only [soundB, hs, h2, Bool.and_true, Bool.true_and, List.all_eq_true]
      exact key _ 0 h1
    · simp at h
theorem all_sound {l : List FE} (hs : ∀ y ∈ l, shapedB y.1 = true) (h : fs1 (fun _ f => ins1 (fns l) f) (fns l) 0 = none) : ∀ y ∈ l, soundB y.1 = true := by
  have key : ∀ (m : List Fn) (j : Nat), fs1 (fun _ f => ins1 (fns l) f) m j = none → ∀ f ∈ m, ins1 (fns l) f = none := by
    intro m
    induction m with
    | nil => simp
    | cons x r ih =>
      intro j h f hf
      cases hx : ins1 (fns l) x with
      | none =>
        simp only [fs1, hx] at h
        rcases List.mem_cons.1 hf with rfl | hf
        · exact hx
        · exact ih _ h f hf
      | some b => simp [fs1, hx] at h
  exact fun y hy => ins_sound (hs y hy) (key _ 0 h _ (List.mem_map.2 ⟨y, hy, rfl⟩))
theorem fns_at {l : List FE} {i : Nat} {x : FE} (h : l[i]? = some x) : (fns l)[i]? = some x.1 := by simp [fns, h]
theorem Check_c (B : Option Addr) (l : List FE) (d : Nat) (w : World) (hG : RdG w) (hB : RdP w B l) :
    Cl Tryd.prog 30 #[pv B l.length d] w (fun v w' => v = fvV (checkL (fns l)) ∧ Ext w w') (fun _ _ => False) := by
  refine calls_exd (args := [pv B l.length d]) T.ok Tryd.func30 rfl rfl rfl rfl ?_
  have H := Hp.begin nw w
  have hfl := fns_len l
  refine Sq.mk ?_
  ((conv => whnf); refine Al.hp H ?_; clear H; intro pp _ H _)
  ((conv => whnf); refine Al.hp H ?_; clear H; intro pr _ H _)
  repeat' ((conv => whnf); first | (((with_reducible show Gd _ _ _); first | with_reducible refine Gd.t ?_ | with_reducible refine Gd.f ?_ | with_reducible refine Gd.dec (fun _ => ?_) (fun _ => ?_) | with_reducible refine Gd.beq (fun _ => ?_) (fun _ => ?_) | with_reducible refine Gd.bne (fun _ => ?_) (fun _ => ?_) | with_reducible refine Gd.not ?_ | refine Gd.t ?_ | refine Gd.f ?_ | with_reducible refine Gd.var (fun _ => ?_) (fun _ => ?_)) <;> first | (exfalso; omega) | skip) | with_reducible refine Sq.mk ?_ | ((with_reducible show Ld1 _ _ _); first | refine Ld1.h H ?_ | refine Ld1.rF ?_ | refine Ld1.r ?_) | ((with_reducible show Ld _ _ _ _); first | refine Ld.h H ?_ | refine Ld.r ?_) | ((with_reducible show Ix _ _ _ _ _); (first | refine Ix.h ?_ | refine Ix.ha ?_)) | (refine Al.hp H ?_; clear H; intro _ _ H _) | (refine St.h H ?_; clear H; intro _ H))
  · ((conv => whnf); refine DCl.mono (check1_ret pr _) ?_; rintro _ _ ⟨rfl, hx⟩; replace H := H.ext hx; clear hx; refine ⟨rfl, ?_⟩; repeat' ((conv => whnf); first | (((with_reducible show Gd _ _ _); first | with_reducible refine Gd.t ?_ | with_reducible refine Gd.f ?_ | with_reducible refine Gd.dec (fun _ => ?_) (fun _ => ?_) | with_reducible refine Gd.beq (fun _ => ?_) (fun _ => ?_) | with_reducible refine Gd.bne (fun _ => ?_) (fun _ => ?_) | with_reducible refine Gd.not ?_ | refine Gd.t ?_ | refine Gd.f ?_ | with_reducible refine Gd.var (fun _ => ?_) (fun _ => ?_)) <;> first | (exfalso; omega) | skip) | with_reducible refine Sq.mk ?_ | ((with_reducible show Ld1 _ _ _); first | refine Ld1.h H ?_ | refine Ld1.rF ?_ | refine Ld1.r ?_) | ((with_reducible show Ld _ _ _ _); first | refine Ld.h H ?_ | refine Ld.r ?_) | ((with_reducible show Ix _ _ _ _ _); (first | refine Ix.h ?_ | refine Ix.ha ?_)) | (refine Al.hp H ?_; clear H; intro _ _ H _) | (refine St.h H ?_; clear H; intro _ H)))
    refine ⟨?_, H.e⟩
    rw [checkL, if_pos (.inl (by omega))]; rfl
  · ((conv => whnf); refine DCl.mono (check1_ret pr _) ?_; rintro _ _ ⟨rfl, hx⟩; replace H := H.ext hx; clear hx; refine ⟨rfl, ?_⟩; repeat' ((conv => whnf); first | (((with_reducible show Gd _ _ _); first | with_reducible refine Gd.t ?_ | with_reducible refine Gd.f ?_ | with_reducible refine Gd.dec (fun _ => ?_) (fun _ => ?_) | with_reducible refine Gd.beq (fun _ => ?_) (fun _ => ?_) | with_reducible refine Gd.bne (fun _ => ?_) (fun _ => ?_) | with_reducible refine Gd.not ?_ | refine Gd.t ?_ | refine Gd.f ?_ | with_reducible refine Gd.var (fun _ => ?_) (fun _ => ?_)) <;> first | (exfalso; omega) | skip) | with_reducible refine Sq.mk ?_ | ((with_reducible show Ld1 _ _ _); first | refine Ld1.h H ?_ | refine Ld1.rF ?_ | refine Ld1.r ?_) | ((with_reducible show Ld _ _ _ _); first | refine Ld.h H ?_ | refine Ld.r ?_) | ((with_reducible show Ix _ _ _ _ _); (first | refine Ix.h ?_ | refine Ix.ha ?_)) | (refine Al.hp H ?_; clear H; intro _ _ H _) | (refine St.h H ?_; clear H; intro _ H)))
    refine ⟨?_, H.e⟩
    rw [checkL, if_pos (.inr (by omega))]; rfl
  -- the shapes
  have hlo : ¬ ((fns l).length < 1 ∨ 32 < (fns l).length) := by omega
  refine Lp.go T.ok (σ := Nat) (fun i => [(24, .int .i64 (i : Int)), (23, .int .i64 (l.length : Int)), (22, .slice B l.length d), (1, .pointer (some ⟨pp, 0, none⟩)), (2, .pointer (some ⟨pr, 0, none⟩))])
    (fun i w' => i ≤ l.length ∧ fs1 (fun _ f => if shapedB f then none else some ()) (fns l) 0 = fs1 (fun _ f => if shapedB f then none else some ()) ((fns l).drop i) i ∧ Hp nw w w' [bk pr 48 (T.t48.zero.cells.toList), bk pp 46 (pv B l.length d).cells.toList]) (fun i _ => l.length - i) 0 ⟨rfl, rfl, rfl, rfl, rfl, trivial⟩ ⟨Nat.zero_le _, rfl, H⟩ ?_
  clear H
  rintro i w5 ⟨hi, hfs, H⟩
  by_cases hlt : i < l.length
  · obtain ⟨x, hx⟩ : ∃ x, l[i]? = some x := ⟨_, List.getElem?_eq_getElem hlt⟩
    have hfx := fns_at hx
    have hB5 := RdS.from H.e hB.top
    repeat' (first | ((conv => whnf); first | (((with_reducible show Gd _ _ _); first | with_reducible refine Gd.t ?_ | with_reducible refine Gd.f ?_ | with_reducible refine Gd.dec (fun _ => ?_) (fun _ => ?_) | with_reducible refine Gd.beq (fun _ => ?_) (fun _ => ?_) | with_reducible refine Gd.bne (fun _ => ?_) (fun _ => ?_) | with_reducible refine Gd.not ?_ | refine Gd.t ?_ | refine Gd.f ?_ | with_reducible refine Gd.var (fun _ => ?_) (fun _ => ?_)) <;> first | (exfalso; omega) | skip) | with_reducible refine Sq.mk ?_ | ((with_reducible show Ld1 _ _ _); first | refine Ld1.h H ?_ | refine Ld1.rF ?_ | refine Ld1.r ?_) | ((with_reducible show Ld _ _ _ _); first | refine Ld.h H ?_ | refine Ld.r ?_) | ((with_reducible show Ix _ _ _ _ _); (first | refine Ix.h ?_ | refine Ix.ha ?_)) | (refine Al.hp H ?_; clear H; intro _ _ H _) | (refine St.h H ?_; clear H; intro _ H)) | (((conv => whnf); refine Cl.mk (shapeOK_c x.1 x.2.1 x.2.2 _) ?_); rintro _ _ ⟨rfl, hx⟩; replace H := H.ext hx; clear hx))
    · have hb : shapedB x.1 = true := by assumption
      rw [fs1_no hfx (by simp only [hb]; rfl)] at hfs
      exact ⟨i + 1, ⟨at_int (m := ((i + 1 : Nat) : Int)) rfl (w64 (by simp) (by omega) (by omega)), rfl, rfl, rfl, rfl, trivial⟩, rfl, ⟨by omega, hfs, H.d0⟩, by omega⟩
    · have hb : shapedB x.1 = false := by assumption
      rw [fs1_yes hfx (b := ()) (by simp only [hb]; rfl)] at hfs
      ((conv => whnf); refine DCl.mono (check1_ret pr _) ?_; rintro _ _ ⟨rfl, hx⟩; replace H := H.ext hx; clear hx; refine ⟨rfl, ?_⟩; repeat' ((conv => whnf); first | (((with_reducible show Gd _ _ _); first | with_reducible refine Gd.t ?_ | with_reducible refine Gd.f ?_ | with_reducible refine Gd.dec (fun _ => ?_) (fun _ => ?_) | with_reducible refine Gd.beq (fun _ => ?_) (fun _ => ?_) | with_reducible refine Gd.bne (fun _ => ?_) (fun _ => ?_) | with_reducible refine Gd.not ?_ | refine Gd.t ?_ | refine Gd.f ?_ | with_reducible refine Gd.var (fun _ => ?_) (fun _ => ?_)) <;> first | (exfalso; omega) | skip) | with_reducible refine Sq.mk ?_ | ((with_reducible show Ld1 _ _ _); first | refine Ld1.h H ?_ | refine Ld1.rF ?_ | refine Ld1.r ?_) | ((with_reducible show Ld _ _ _ _); first | refine Ld.h H ?_ | refine Ld.r ?_) | ((with_reducible show Ix _ _ _ _ _); (first | refine Ix.h ?_ | refine Ix.ha ?_)) | (refine Al.hp H ?_; clear H; intro _ _ H _) | (refine St.h H ?_; clear H; intro _ H)))
      refine ⟨?_, H.e⟩
      rw [checkL, if_neg hlo]; simp only [hfs]; rfl
  have hi : i = l.length := by omega
  subst hi
  rw [fs1_end (by omega)] at hfs
  have hsh := shaped_all hfs
  have hC1 : checkL (fns l) = match fs1 (fun _ f => ins1 (fns l) f) (fns l) 0 with
      | some (i, e, k) => (e, i, k)
      | none => match fs1 (fun _ f => slot1 f) (fns l) 0 with
        | some (i, e, k) => (e, i, k)
        | none => (0, 0, 0) := by rw [checkL, if_neg hlo]; simp only [hfs]; rfl
  have hne : l ≠ [] := fun h => by subst h; exact hlo (.inl (by simp [fns]))
  have hpar : ∀ y ∈ l, 0 ≤ y.1.params ∧ y.1.params ≤ 8 := fun y hy => by
    have h := hsh y hy
    simp only [shapedB, decide_eq_true_eq] at h
    omega
  clear hlo hfs hlt hi
  repeat' ((conv => whnf); first | (((with_reducible show Gd _ _ _); first | with_reducible refine Gd.t ?_ | with_reducible refine Gd.f ?_ | with_reducible refine Gd.dec (fun _ => ?_) (fun _ => ?_) | with_reducible refine Gd.beq (fun _ => ?_) (fun _ => ?_) | with_reducible refine Gd.bne (fun _ => ?_) (fun _ => ?_) | with_reducible refine Gd.not ?_ | refine Gd.t ?_ | refine Gd.f ?_ | with_reducible refine Gd.var (fun _ => ?_) (fun _ => ?_)) <;> first | (exfalso; omega) | skip) | with_reducible refine Sq.mk ?_ | ((with_reducible show Ld1 _ _ _); first | refine Ld1.h H ?_ | refine Ld1.rF ?_ | refine Ld1.r ?_) | ((with_reducible show Ld _ _ _ _); first | refine Ld.h H ?_ | refine Ld.r ?_) | ((with_reducible show Ix _ _ _ _ _); (first | refine Ix.h ?_ | refine Ix.ha ?_)) | (refine Al.hp H ?_; clear H; intro _ _ H _) | (refine St.h H ?_; clear H; intro _ H))
  -- the instructions
  refine Lp.go T.ok (σ := Nat) (fun i => [(38, .int .i64 (i : Int)), (37, .int .i64 (l.length : Int)), (36, .slice B l.length d), (1, .pointer (some ⟨pp, 0, none⟩)), (2, .pointer (some ⟨pr, 0, none⟩))])
    (fun i w' => i ≤ l.length ∧ fs1 (fun _ f => ins1 (fns l) f) (fns l) 0 = fs1 (fun _ f => ins1 (fns l) f) ((fns l).drop i) i ∧ Hp nw w w' [bk pr 48 (T.t48.zero.cells.toList), bk pp 46 (pv B l.length d).cells.toList]) (fun i _ => l.length - i) 0 ⟨rfl, rfl, rfl, rfl, rfl, trivial⟩ ⟨Nat.zero_le _, rfl, H⟩ ?_
  clear H
  rintro i w6 ⟨hi, hfs, H⟩
  by_cases hlt : i < l.length
  rotate_left
  have hi : i = l.length := by omega
  subst hi
  rw [fs1_end (by omega)] at hfs
  have hsd := all_sound hsh hfs
  have hC2 : checkL (fns l) = match fs1 (fun _ f => slot1 f) (fns l) 0 with
        | some (i, e, k) => (e, i, k)
        | none => (0, 0, 0) := by rw [hC1]; simp only [hfs]
  clear hC1 hfs hlt hi
  repeat' ((conv => whnf); first | (((with_reducible show Gd _ _ _); first | with_reducible refine Gd.t ?_ | with_reducible refine Gd.f ?_ | with_reducible refine Gd.dec (fun _ => ?_) (fun _ => ?_) | with_reducible refine Gd.beq (fun _ => ?_) (fun _ => ?_) | with_reducible refine Gd.bne (fun _ => ?_) (fun _ => ?_) | with_reducible refine Gd.not ?_ | refine Gd.t ?_ | refine Gd.f ?_ | with_reducible refine Gd.var (fun _ => ?_) (fun _ => ?_)) <;> first | (exfalso; omega) | skip) | with_reducible refine Sq.mk ?_ | ((with_reducible show Ld1 _ _ _); first | refine Ld1.h H ?_ | refine Ld1.rF ?_ | refine Ld1.r ?_) | ((with_reducible show Ld _ _ _ _); first | refine Ld.h H ?_ | refine Ld.r ?_) | ((with_reducible show Ix _ _ _ _ _); (first | refine Ix.h ?_ | refine Ix.ha ?_)) | (refine Al.hp H ?_; clear H; intro _ _ H _) | (refine St.h H ?_; clear H; intro _ H))
  -- the slots
  refine Lp.go T.ok (σ := Nat) (fun i => [(52, .int .i64 (i : Int)), (51, .int .i64 (l.length : Int)), (50, .slice B l.length d), (1, .pointer (some ⟨pp, 0, none⟩)), (2, .pointer (some ⟨pr, 0, none⟩))])
    (fun i w' => i ≤ l.length ∧ fs1 (fun _ f => slot1 f) (fns l) 0 = fs1 (fun _ f => slot1 f) ((fns l).drop i) i ∧ Hp nw w w' [bk pr 48 (T.t48.zero.cells.toList), bk pp 46 (pv B l.length d).cells.toList]) (fun i _ => l.length - i) 0 ⟨rfl, rfl, rfl, rfl, rfl, trivial⟩ ⟨Nat.zero_le _, rfl, H⟩ ?_
  clear H
  rintro i w7 ⟨hi, hfs, H⟩
  by_cases hlt : i < l.length
  rotate_left
  have hi : i = l.length := by omega
  subst hi
  rw [fs1_end (by omega)] at hfs
  have hC3 : checkL (fns l) = (0, 0, 0) := by rw [hC2]; simp only [hfs]
  repeat' ((conv => whnf); first | (((with_reducible show Gd _ _ _); first | with_reducible refine Gd.t ?_ | with_reducible refine Gd.f ?_ | with_reducible refine Gd.dec (fun _ => ?_) (fun _ => ?_) | with_reducible refine Gd.beq (fun _ => ?_) (fun _ => ?_) | with_reducible refine Gd.bne (fun _ => ?_) (fun _ => ?_) | with_reducible refine Gd.not ?_ | refine Gd.t ?_ | refine Gd.f ?_ | with_reducible refine Gd.var (fun _ => ?_) (fun _ => ?_)) <;> first | (exfalso; omega) | skip) | with_reducible refine Sq.mk ?_ | ((with_reducible show Ld1 _ _ _); first | refine Ld1.h H ?_ | refine Ld1.rF ?_ | refine Ld1.r ?_) | ((with_reducible show Ld _ _ _ _); first | refine Ld.h H ?_ | refine Ld.r ?_) | ((with_reducible show Ix _ _ _ _ _); (first | refine Ix.h ?_ | refine Ix.ha ?_)) | (refine Al.hp H ?_; clear H; intro _ _ H _) | (refine St.h H ?_; clear H; intro _ H))
  ((conv => whnf); refine DCl.mono (check1_ret pr _) ?_; rintro _ _ ⟨rfl, hx⟩; replace H := H.ext hx; clear hx; refine ⟨rfl, ?_⟩; repeat' ((conv => whnf); first | (((with_reducible show Gd _ _ _); first | with_reducible refine Gd.t ?_ | with_reducible refine Gd.f ?_ | with_reducible refine Gd.dec (fun _ => ?_) (fun _ => ?_) | with_reducible refine Gd.beq (fun _ => ?_) (fun _ => ?_) | with_reducible refine Gd.bne (fun _ => ?_) (fun _ => ?_) | with_reducible refine Gd.not ?_ | refine Gd.t ?_ | refine Gd.f ?_ | with_reducible refine Gd.var (fun _ => ?_) (fun _ => ?_)) <;> first | (exfalso; omega) | skip) | with_reducible refine Sq.mk ?_ | ((with_reducible show Ld1 _ _ _); first | refine Ld1.h H ?_ | refine Ld1.rF ?_ | refine Ld1.r ?_) | ((with_reducible show Ld _ _ _ _); first | refine Ld.h H ?_ | refine Ld.r ?_) | ((with_reducible show Ix _ _ _ _ _); (first | refine Ix.h ?_ | refine Ix.ha ?_)) | (refine Al.hp H ?_; clear H; intro _ _ H _) | (refine St.h H ?_; clear H; intro _ H)))
  exact ⟨by rw [hC3]; rfl, H.e⟩
  · obtain ⟨x, hx⟩ : ∃ x, l[i]? = some x := ⟨_, List.getElem?_eq_getElem hlt⟩
    have hxm := List.mem_of_getElem? hx
    have hfx := fns_at hx
    have hB5 := RdS.from H.e hB.top
    repeat' ((conv => whnf); first | (((with_reducible show Gd _ _ _); first | with_reducible refine Gd.t ?_ | with_reducible refine Gd.f ?_ | with_reducible refine Gd.dec (fun _ => ?_) (fun _ => ?_) | with_reducible refine Gd.beq (fun _ => ?_) (fun _ => ?_) | with_reducible refine Gd.bne (fun _ => ?_) (fun _ => ?_) | with_reducible refine Gd.not ?_ | refine Gd.t ?_ | refine Gd.f ?_ | with_reducible refine Gd.var (fun _ => ?_) (fun _ => ?_)) <;> first | (exfalso; omega) | skip) | with_reducible refine Sq.mk ?_ | ((with_reducible show Ld1 _ _ _); first | refine Ld1.h H ?_ | refine Ld1.rF ?_ | refine Ld1.r ?_) | ((with_reducible show Ld _ _ _ _); first | refine Ld.h H ?_ | refine Ld.r ?_) | ((with_reducible show Ix _ _ _ _ _); (first | refine Ix.h ?_ | refine Ix.ha ?_)) | (refine Al.hp H ?_; clear H; intro _ _ H _) | (refine St.h H ?_; clear H; intro _ H))
    (conv => whnf)
    refine Cl.mkX (instructions_c i x.1 x.2.1 x.2.2 B l d _ (RdS.from H.e hG) (RdS.from H.e (hB.code x hxm)) (RdS.from H.e hB.top) hne (by omega) (hsh x hxm) hpar) ?_ ?_
    · rintro _ w' ⟨hb, hx1⟩
      replace H := H.ext hx1
      rw [fs1_no hfx hb] at hfs
      repeat' ((conv => whnf); first | (((with_reducible show Gd _ _ _); first | with_reducible refine Gd.t ?_ | with_reducible refine Gd.f ?_ | with_reducible refine Gd.dec (fun _ => ?_) (fun _ => ?_) | with_reducible refine Gd.beq (fun _ => ?_) (fun _ => ?_) | with_reducible refine Gd.bne (fun _ => ?_) (fun _ => ?_) | with_reducible refine Gd.not ?_ | refine Gd.t ?_ | refine Gd.f ?_ | with_reducible refine Gd.var (fun _ => ?_) (fun _ => ?_)) <;> first | (exfalso; omega) | skip) | with_reducible refine Sq.mk ?_ | ((with_reducible show Ld1 _ _ _); first | refine Ld1.h H ?_ | refine Ld1.rF ?_ | refine Ld1.r ?_) | ((with_reducible show Ld _ _ _ _); first | refine Ld.h H ?_ | refine Ld.r ?_) | ((with_reducible show Ix _ _ _ _ _); (first | refine Ix.h ?_ | refine Ix.ha ?_)) | (refine Al.hp H ?_; clear H; intro _ _ H _) | (refine St.h H ?_; clear H; intro _ H))
      exact ⟨i + 1, ⟨at_int (m := ((i + 1 : Nat) : Int)) rfl (w64 (by simp) (by omega) (by omega)), rfl, rfl, rfl, rfl, trivial⟩, rfl, ⟨by omega, hfs, H.d0⟩, by omega⟩
    · rintro _ w' ⟨e, k, hb, rfl, hx1⟩
      replace H := H.ext hx1
      rw [fs1_yes hfx hb] at hfs
      (conv => whnf)
      refine DCl.mono (check1_pan e i k pr _ _ (H.blk 1 rfl) rfl) ?_
      rintro _ w'' ⟨rfl, H'⟩
      replace H := H.updb H'
      repeat' ((conv => whnf); first | (((with_reducible show Gd _ _ _); first | with_reducible refine Gd.t ?_ | with_reducible refine Gd.f ?_ | with_reducible refine Gd.dec (fun _ => ?_) (fun _ => ?_) | with_reducible refine Gd.beq (fun _ => ?_) (fun _ => ?_) | with_reducible refine Gd.bne (fun _ => ?_) (fun _ => ?_) | with_reducible refine Gd.not ?_ | refine Gd.t ?_ | refine Gd.f ?_ | with_reducible refine Gd.var (fun _ => ?_) (fun _ => ?_)) <;> first | (exfalso; omega) | skip) | with_reducible refine Sq.mk ?_ | ((with_reducible show Ld1 _ _ _); first | refine Ld1.h H ?_ | refine Ld1.rF ?_ | refine Ld1.r ?_) | ((with_reducible show Ld _ _ _ _); first | refine Ld.h H ?_ | refine Ld.r ?_) | ((with_reducible show Ix _ _ _ _ _); (first | refine Ix.h ?_ | refine Ix.ha ?_)) | (refine Al.hp H ?_; clear H; intro _ _ H _) | (refine St.h H ?_; clear H; intro _ H))
      exact ⟨by rw [hC1]; simp only [hfs]; rfl, H.e⟩
  · obtain ⟨x, hx⟩ : ∃ x, l[i]? = some x := ⟨_, List.getElem?_eq_getElem hlt⟩
    have hxm := List.mem_of_getElem? hx
    have hfx := fns_at hx
    have hB5 := RdS.from H.e hB.top
    repeat' ((conv => whnf); first | (((with_reducible show Gd _ _ _); first | with_reducible refine Gd.t ?_ | with_reducible refine Gd.f ?_ | with_reducible refine Gd.dec (fun _ => ?_) (fun _ => ?_) | with_reducible refine Gd.beq (fun _ => ?_) (fun _ => ?_) | with_reducible refine Gd.bne (fun _ => ?_) (fun _ => ?_) | with_reducible refine Gd.not ?_ | refine Gd.t ?_ | refine Gd.f ?_ | with_reducible refine Gd.var (fun _ => ?_) (fun _ => ?_)) <;> first | (exfalso; omega) | skip) | with_reducible refine Sq.mk ?_ | ((with_reducible show Ld1 _ _ _); first | refine Ld1.h H ?_ | refine Ld1.rF ?_ | refine Ld1.r ?_) | ((with_reducible show Ld _ _ _ _); first | refine Ld.h H ?_ | refine Ld.r ?_) | ((with_reducible show Ix _ _ _ _ _); (first | refine Ix.h ?_ | refine Ix.ha ?_)) | (refine Al.hp H ?_; clear H; intro _ _ H _) | (refine St.h H ?_; clear H; intro _ H))
    (conv => whnf)
    refine Cl.mkX (slots_c i x.1 x.2.1 x.2.2 _ (RdS.from H.e hG) (RdS.from H.e (hB.code x hxm)) (hsd x hxm)) ?_ ?_
    · rintro _ w' ⟨hb, hx1⟩
      replace H := H.ext hx1
      rw [fs1_no hfx hb] at hfs
      repeat' ((conv => whnf); first | (((with_reducible show Gd _ _ _); first | with_reducible refine Gd.t ?_ | with_reducible refine Gd.f ?_ | with_reducible refine Gd.dec (fun _ => ?_) (fun _ => ?_) | with_reducible refine Gd.beq (fun _ => ?_) (fun _ => ?_) | with_reducible refine Gd.bne (fun _ => ?_) (fun _ => ?_) | with_reducible refine Gd.not ?_ | refine Gd.t ?_ | refine Gd.f ?_ | with_reducible refine Gd.var (fun _ => ?_) (fun _ => ?_)) <;> first | (exfalso; omega) | skip) | with_reducible refine Sq.mk ?_ | ((with_reducible show Ld1 _ _ _); first | refine Ld1.h H ?_ | refine Ld1.rF ?_ | refine Ld1.r ?_) | ((with_reducible show Ld _ _ _ _); first | refine Ld.h H ?_ | refine Ld.r ?_) | ((with_reducible show Ix _ _ _ _ _); (first | refine Ix.h ?_ | refine Ix.ha ?_)) | (refine Al.hp H ?_; clear H; intro _ _ H _) | (refine St.h H ?_; clear H; intro _ H))
      exact ⟨i + 1, ⟨at_int (m := ((i + 1 : Nat) : Int)) rfl (w64 (by simp) (by omega) (by omega)), rfl, rfl, rfl, rfl, trivial⟩, rfl, ⟨by omega, hfs, H.d0⟩, by omega⟩
    · rintro _ w' ⟨e, k, hb, rfl, hx1⟩
      replace H := H.ext hx1
      rw [fs1_yes hfx hb] at hfs
      (conv => whnf)
      refine DCl.mono (check1_pan e i k pr _ _ (H.blk 1 rfl) rfl) ?_
      rintro _ w'' ⟨rfl, H'⟩
      replace H := H.updb H'
      repeat' ((conv => whnf); first | (((with_reducible show Gd _ _ _); first | with_reducible refine Gd.t ?_ | with_reducible refine Gd.f ?_ | with_reducible refine Gd.dec (fun _ => ?_) (fun _ => ?_) | with_reducible refine Gd.beq (fun _ => ?_) (fun _ => ?_) | with_reducible refine Gd.bne (fun _ => ?_) (fun _ => ?_) | with_reducible refine Gd.not ?_ | refine Gd.t ?_ | refine Gd.f ?_ | with_reducible refine Gd.var (fun _ => ?_) (fun _ => ?_)) <;> first | (exfalso; omega) | skip) | with_reducible refine Sq.mk ?_ | ((with_reducible show Ld1 _ _ _); first | refine Ld1.h H ?_ | refine Ld1.rF ?_ | refine Ld1.r ?_) | ((with_reducible show Ld _ _ _ _); first | refine Ld.h H ?_ | refine Ld.r ?_) | ((with_reducible show Ix _ _ _ _ _); (first | refine Ix.h ?_ | refine Ix.ha ?_)) | (refine Al.hp H ?_; clear H; intro _ _ H _) | (refine St.h H ?_; clear H; intro _ H))
      exact ⟨by rw [hC2]; simp only [hfs]; rfl, H.e⟩
end Go.Proofs.YtbbadmlekagloaaDoor
