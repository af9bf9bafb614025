/- layer prog: the reference's judgement of a path; own work. -/
import Derived.Test.YtbbadmlekagloaaDoorPgX
import Derived.Test.YtbbadmlekagloaaDoorShR
namespace Go.Proofs.YtbbadmlekagloaaDoor
open Go Go.Sh
set_option linter.unusedVariables false
set_option linter.unusedSimpArgs false
attribute [local irreducible] Blk Ext RdS
/-- rows, as a piece of memory -/
abbrev mxk (B p n m : Nat) (ps : List Nat) (g : Nat → Nat → Int) : Ck := ⟨fun k => k = p ∨ k ∈ ps, fun w => Mx w B p n m ps g, true, false⟩
theorem mx_ok {w : World} {B p n m : Nat} {ps : List Nat} {g : Nat → Nat → Int} (h : Mx w B p n m ps g) : (mxk B p n m ps g).Ok w := by
  refine ⟨h, fun k hk => ?_, fun w' _ hb => ⟨?_, h.le, fun i q hq => ?_, h.nodup, h.lo, h.plo⟩⟩
  · rcases hk with rfl | hk
    · exact h.top.lt
    · obtain ⟨i, hi⟩ := List.getElem?_of_mem hk
      exact (h.row i k hi).lt
  · have := h.top; unfold Blk at this ⊢; rw [hb p (.inl rfl)]; exact this
  · have := h.row i q hq; unfold Blk at this ⊢; rw [hb q (.inr (List.mem_of_getElem? hq))]; exact this
theorem mx_new {w w' : World} {p n m : Nat} {ps : List Nat} {g : Nat → Nat → Int} (h : Mx w' w.heap.size p n m ps g) (e : Ext w w') : Hp nw w w' [mxk w.heap.size p n m ps g] :=
  Hp.one (Tch.of_ext e) (mx_ok h) fun k hk => .inr (by rcases hk with rfl | hk; exact h.plo; exact h.lo k hk)
theorem flw_and {f : Fn} {slot : Int} {i : Nat} {s : Int} (h : okS s) : bitand (flw f slot i) s = 0 ↔ ¬ Reach f slot (i, s) := by
  unfold flw
  rcases h with rfl | rfl | rfl <;> (by_cases h1 : Reach f slot (i, (1 : Int))) <;> (by_cases h2 : Reach f slot (i, (2 : Int))) <;> (by_cases h4 : Reach f slot (i, (4 : Int))) <;> simp only [h1, h2, h4, if_true, if_false] <;> decide
theorem Trails_bad (f : Fn) (A : Option Addr) (c : Nat) (at_ slot state : Int) (C : Option Addr) (d : Nat) (w : World) (hA : RdC w A f.code) (hb : Bad f at_ slot state) :
    Cl Tryd.prog 26 #[f.v A c, .int .i64 at_, .int .i64 slot, .int .i64 state, .slice C 0 d, .int .i64 3] w (fun v w' => v = .bool true ∧ Ext w w') (fun _ _ => False) := by
  refine calls_ex (args := [f.v A c, .int .i64 at_, .int .i64 slot, .int .i64 state, .slice C 0 d, .int .i64 3]) T.ok Tryd.func26 rfl rfl rfl rfl ?_
  have H := Hp.begin nw w
  by_cases hS : soundB f = true
  · have hsh : shapedB f = true := by simp only [soundB, Bool.and_eq_true] at hS; exact hS.1.1
    obtain ⟨m, hm, hm8⟩ := slots_nat hsh
    obtain ⟨hl1, hl2⟩ := shaped_len hsh
    have hb' : at_ < 0 ∨ (f.code.length : Int) ≤ at_ ∨ slot < 0 ∨ f.slots ≤ slot ∨ (state ≠ 1 ∧ state ≠ 2 ∧ state ≠ 4) := by
      rcases hb with h | h
      · rw [hS] at h; simp at h
      · exact h
    repeat' ((conv => whnf); first | (((with_reducible show Gd _ _ _); first | with_reducible refine Gd.t ?_ | with_reducible refine Gd.f ?_ | with_reducible refine Gd.dec (fun _ => ?_) (fun _ => ?_) | with_reducible refine Gd.beq (fun _ => ?_) (fun _ => ?_) | with_reducible refine Gd.bne (fun _ => ?_) (fun _ => ?_) | with_reducible refine Gd.not ?_ | refine Gd.t ?_ | refine Gd.f ?_ | with_reducible refine Gd.var (fun _ => ?_) (fun _ => ?_)) <;> first | (exfalso; omega) | skip) | with_reducible refine Sq.mk ?_ | ((with_reducible show Ld1 _ _ _); first | refine Ld1.h H ?_ | refine Ld1.rF ?_ | refine Ld1.r ?_) | ((with_reducible show Ld _ _ _ _); first | refine Ld.h H ?_ | refine Ld.r ?_) | ((with_reducible show Ix _ _ _ _ _); (first | refine Ix.h ?_ | refine Ix.ha ?_)) | (refine Al.hp H ?_; clear H; intro _ _ H _) | (refine St.h H ?_; clear H; intro _ H))
    (show Cl _ _ _ _ _ _; refine Cl.mk (Flow_yes f A c m _ (RdS.from H.e hA) hS hm hm8) ?_)
    rintro _ w2 ⟨p, ps, rfl, hpl, hM, e⟩
    replace H := H.fr0 (mx_new hM e) (.inl rfl)
    repeat' (first | ((conv => whnf); first | (((with_reducible show Gd _ _ _); first | with_reducible refine Gd.t ?_ | with_reducible refine Gd.f ?_ | with_reducible refine Gd.dec (fun _ => ?_) (fun _ => ?_) | with_reducible refine Gd.beq (fun _ => ?_) (fun _ => ?_) | with_reducible refine Gd.bne (fun _ => ?_) (fun _ => ?_) | with_reducible refine Gd.not ?_ | refine Gd.t ?_ | refine Gd.f ?_ | with_reducible refine Gd.var (fun _ => ?_) (fun _ => ?_)) <;> first | (exfalso; omega) | skip) | with_reducible refine Sq.mk ?_ | ((with_reducible show Ld1 _ _ _); first | refine Ld1.h H ?_ | refine Ld1.rF ?_ | refine Ld1.r ?_) | ((with_reducible show Ld _ _ _ _); first | refine Ld.h H ?_ | refine Ld.r ?_) | ((with_reducible show Ix _ _ _ _ _); (first | refine Ix.h ?_ | refine Ix.ha ?_)) | (refine Al.hp H ?_; clear H; intro _ _ H _) | (refine St.h H ?_; clear H; intro _ H)) | (((conv => whnf); refine Cl.mk (below_c _ _ _) ?_); rintro _ _ ⟨rfl, hx⟩; replace H := H.ext hx; clear hx))
    all_goals first | exact ⟨rfl, H.e⟩ | (exfalso; simp only [belowB, decide_eq_true_eq] at *; omega)
  · have hS : soundB f = false := by simpa using hS
    repeat' (first | ((conv => whnf); first | (((with_reducible show Gd _ _ _); first | with_reducible refine Gd.t ?_ | with_reducible refine Gd.f ?_ | with_reducible refine Gd.dec (fun _ => ?_) (fun _ => ?_) | with_reducible refine Gd.beq (fun _ => ?_) (fun _ => ?_) | with_reducible refine Gd.bne (fun _ => ?_) (fun _ => ?_) | with_reducible refine Gd.not ?_ | refine Gd.t ?_ | refine Gd.f ?_ | with_reducible refine Gd.var (fun _ => ?_) (fun _ => ?_)) <;> first | (exfalso; omega) | skip) | with_reducible refine Sq.mk ?_ | ((with_reducible show Ld1 _ _ _); first | refine Ld1.h H ?_ | refine Ld1.rF ?_ | refine Ld1.r ?_) | ((with_reducible show Ld _ _ _ _); first | refine Ld.h H ?_ | refine Ld.r ?_) | ((with_reducible show Ix _ _ _ _ _); (first | refine Ix.h ?_ | refine Ix.ha ?_)) | (refine Al.hp H ?_; clear H; intro _ _ H _) | (refine St.h H ?_; clear H; intro _ H)) | (((conv => whnf); refine Cl.mk (Flow_no f A c _ (RdS.from H.e hA) hS) ?_); rintro _ _ ⟨rfl, hx⟩; replace H := H.ext hx; clear hx))
    all_goals exact ⟨rfl, H.e⟩
theorem succ_mem {f : Fn} {slot : Int} {x y : Pt} {c : Ins} (hS : soundB f = true) (hc : f.code[x.1]? = some c) (h : y ∈ succs f slot x) : (y.1 : Int) ∈ nextsS x.1 c ∧ afterS c slot x.2 = y.2 := by
  unfold succs at h
  rw [hc] at h
  simp only [List.mem_map] at h
  obtain ⟨n, hn, rfl⟩ := h
  have := (next_range hS hc n hn).1
  exact ⟨by simp only; rw [Int.toNat_of_nonneg this]; exact hn, rfl⟩
theorem nexts_len (i : Nat) (c : Ins) : (nextsS i c).length ≤ 2 := by
  unfold nextsS
  repeat' split
  all_goals simp
theorem take_mem {l : List Int} {j : Nat} {x y : Int} (h : l[j]? = some y) : x ∈ l.take (j + 1) ↔ x ∈ l.take j ∨ x = y := by
  obtain ⟨hlt, hy⟩ := List.getElem?_eq_some_iff.1 h
  rw [List.take_succ_eq_append_getElem hlt, List.mem_append, hy]
  simp
theorem Trails_no (f : Fn) (A : Option Addr) (c i : Nat) (slot state : Int) (C : Option Addr) (d : Nat) (w : World) (hA : RdC w A f.code) (hS : soundB f = true) (hi : i < f.code.length) (hs0 : 0 ≤ slot) (hs1 : slot < f.slots) (hst : okS state) (hn : ¬ Reach f slot (i, state)) :
    Cl Tryd.prog 26 #[f.v A c, .int .i64 (i : Int), .int .i64 slot, .int .i64 state, .slice C 0 d, .int .i64 59] w (fun v w' => v = .bool true ∧ Ext w w') (fun _ _ => False) := by
  refine calls_ex (args := [f.v A c, .int .i64 (i : Int), .int .i64 slot, .int .i64 state, .slice C 0 d, .int .i64 59]) T.ok Tryd.func26 rfl rfl rfl rfl ?_
  have H := Hp.begin nw w
  have hsh : shapedB f = true := by simp only [soundB, Bool.and_eq_true] at hS; exact hS.1.1
  obtain ⟨m, hm, hm8⟩ := slots_nat hsh
  obtain ⟨hl1, hl2⟩ := shaped_len hsh
  obtain ⟨s, rfl, hsm⟩ : ∃ s : Nat, slot = s ∧ s < m := ⟨slot.toNat, by omega, by omega⟩
  have h0 := (flw_and (f := f) (slot := s) (i := i) hst).2 hn
  unfold okS at hst
  repeat' ((conv => whnf); first | (((with_reducible show Gd _ _ _); first | with_reducible refine Gd.t ?_ | with_reducible refine Gd.f ?_ | with_reducible refine Gd.dec (fun _ => ?_) (fun _ => ?_) | with_reducible refine Gd.beq (fun _ => ?_) (fun _ => ?_) | with_reducible refine Gd.bne (fun _ => ?_) (fun _ => ?_) | with_reducible refine Gd.not ?_ | refine Gd.t ?_ | refine Gd.f ?_ | with_reducible refine Gd.var (fun _ => ?_) (fun _ => ?_)) <;> first | (exfalso; omega) | skip) | with_reducible refine Sq.mk ?_ | ((with_reducible show Ld1 _ _ _); first | refine Ld1.h H ?_ | refine Ld1.rF ?_ | refine Ld1.r ?_) | ((with_reducible show Ld _ _ _ _); first | refine Ld.h H ?_ | refine Ld.r ?_) | ((with_reducible show Ix _ _ _ _ _); (first | refine Ix.h ?_ | refine Ix.ha ?_)) | (refine Al.hp H ?_; clear H; intro _ _ H _) | (refine St.h H ?_; clear H; intro _ H))
  ((conv => whnf); refine Cl.mk (Flow_yes f A c m _ (RdS.from H.e hA) hS hm hm8) ?_)
  rintro _ w2 ⟨p, ps, rfl, hpl, hM, e⟩
  replace H := H.fr0 (mx_new hM e) (.inl rfl)
  repeat' (first | ((conv => whnf); first | (((with_reducible show Gd _ _ _); first | with_reducible refine Gd.t ?_ | with_reducible refine Gd.f ?_ | with_reducible refine Gd.dec (fun _ => ?_) (fun _ => ?_) | with_reducible refine Gd.beq (fun _ => ?_) (fun _ => ?_) | with_reducible refine Gd.bne (fun _ => ?_) (fun _ => ?_) | with_reducible refine Gd.not ?_ | refine Gd.t ?_ | refine Gd.f ?_ | with_reducible refine Gd.var (fun _ => ?_) (fun _ => ?_)) <;> first | (exfalso; omega) | skip) | with_reducible refine Sq.mk ?_ | ((with_reducible show Ld1 _ _ _); first | refine Ld1.h H ?_ | refine Ld1.rF ?_ | refine Ld1.r ?_) | ((with_reducible show Ld _ _ _ _); first | refine Ld.h H ?_ | refine Ld.r ?_) | ((with_reducible show Ix _ _ _ _ _); (first | refine Ix.h ?_ | refine Ix.ha ?_)) | (refine Al.hp H ?_; clear H; intro _ _ H _) | (refine St.h H ?_; clear H; intro _ H)) | (((conv => whnf); refine Cl.mk (below_c _ _ _) ?_); rintro _ _ ⟨rfl, hx⟩; replace H := H.ext hx; clear hx))
  all_goals first | (exfalso; simp only [belowB, decide_eq_false_iff_not] at *; omega) | skip
  all_goals
    have hM := H.atC 0 rfl
    obtain ⟨q, hq⟩ : ∃ q, ps[i]? = some q := ⟨_, List.getElem?_eq_getElem (by omega)⟩
    have hr := hM.rd (by omega)
    have hat := hM.at hq
    have hrow := rd_full (hM.row i q hq) (fun _ _ => rfl)
    have hg := rowL_at (g := flwG f i) hsm
    have hlen := hM.len
    have hlen2 := rowL_len m (flwG f i)
    repeat' ((conv => whnf); first | (((with_reducible show Gd _ _ _); first | with_reducible refine Gd.t ?_ | with_reducible refine Gd.f ?_ | with_reducible refine Gd.dec (fun _ => ?_) (fun _ => ?_) | with_reducible refine Gd.beq (fun _ => ?_) (fun _ => ?_) | with_reducible refine Gd.bne (fun _ => ?_) (fun _ => ?_) | with_reducible refine Gd.not ?_ | refine Gd.t ?_ | refine Gd.f ?_ | with_reducible refine Gd.var (fun _ => ?_) (fun _ => ?_)) <;> first | (exfalso; omega) | skip) | with_reducible refine Sq.mk ?_ | ((with_reducible show Ld1 _ _ _); first | refine Ld1.h H ?_ | refine Ld1.rF ?_ | refine Ld1.r ?_) | ((with_reducible show Ld _ _ _ _); first | refine Ld.h H ?_ | refine Ld.r ?_) | ((with_reducible show Ix _ _ _ _ _); (first | refine Ix.h ?_ | refine Ix.ha ?_)) | (refine Al.hp H ?_; clear H; intro _ _ H _) | (refine St.h H ?_; clear H; intro _ H))
    all_goals first | (exact ⟨rfl, H.e⟩) | (exfalso; exact absurd h0 (by assumption))
set_option maxHeartbeats 1000000 in
theorem Trails_yes (f : Fn) (A : Option Addr) (c i : Nat) (slot state : Int) (C : Option Addr) (d : Nat) (l : List Int) (w : World) (hA : RdC w A f.code) (hC : RdS ints 1 w C l) (hS : soundB f = true) (hi : i < f.code.length) (hs0 : 0 ≤ slot) (hs1 : slot < f.slots) (hst : okS state)
    (hn : Reach f slot (i, state)) (hG : GoodPath f slot (i, state) l) :
    Cl Tryd.prog 26 #[f.v A c, .int .i64 (i : Int), .int .i64 slot, .int .i64 state, .slice C l.length d, .int .i64 0] w (fun v w' => v = .bool true ∧ Ext w w') (fun _ _ => False) := by
  obtain ⟨pts, rfl, hp0, hpl, hstep, hlen3, hin⟩ := hG
  have hpll := pl_len pts
  have hp1 : 1 ≤ pts.length := (List.getElem?_eq_some_iff.1 hp0).1
  have hq0 : (pl pts)[0]? = some 0 := by simp [pl, hp0]
  have hqn : (pl pts)[pts.length - 1]? = some (i : Int) := by
    rw [List.getLast?_eq_getElem?] at hpl
    simp [pl, hpl]
  refine calls_ex (args := [f.v A c, .int .i64 (i : Int), .int .i64 slot, .int .i64 state, .slice C (pl pts).length d, .int .i64 0]) T.ok Tryd.func26 rfl rfl rfl rfl ?_
  have H := Hp.begin nw w
  have hsh : shapedB f = true := by simp only [soundB, Bool.and_eq_true] at hS; exact hS.1.1
  obtain ⟨m, hm, hm8⟩ := slots_nat hsh
  obtain ⟨hl1, hl2⟩ := shaped_len hsh
  obtain ⟨sl0, rfl, hsm⟩ : ∃ s : Nat, slot = s ∧ s < m := ⟨slot.toNat, by omega, by omega⟩
  have h0 : ¬ bitand (flw f sl0 i) state = 0 := fun e => (flw_and hst).1 e hn
  have hw3 : IntKind.i64.wrap (3 * (f.code.length : Int)) = 3 * (f.code.length : Int) := w64 rfl (by omega) (by omega)
  have hw1 : IntKind.i64.wrap (((pl pts).length : Int) - 1) = ((pts.length - 1 : Nat) : Int) := w64 (by omega) (by omega) (by omega)
  unfold okS at hst
  refine Sq.mk ?_
  ((conv => whnf); refine Al.hp H ?_; clear H; intro pf _ H _)
  repeat' ((conv => whnf); first | (((with_reducible show Gd _ _ _); first | with_reducible refine Gd.t ?_ | with_reducible refine Gd.f ?_ | with_reducible refine Gd.dec (fun _ => ?_) (fun _ => ?_) | with_reducible refine Gd.beq (fun _ => ?_) (fun _ => ?_) | with_reducible refine Gd.bne (fun _ => ?_) (fun _ => ?_) | with_reducible refine Gd.not ?_ | refine Gd.t ?_ | refine Gd.f ?_ | with_reducible refine Gd.var (fun _ => ?_) (fun _ => ?_)) <;> first | (exfalso; omega) | skip) | with_reducible refine Sq.mk ?_ | ((with_reducible show Ld1 _ _ _); first | refine Ld1.h H ?_ | refine Ld1.rF ?_ | refine Ld1.r ?_) | ((with_reducible show Ld _ _ _ _); first | refine Ld.h H ?_ | refine Ld.r ?_) | ((with_reducible show Ix _ _ _ _ _); (first | refine Ix.h ?_ | refine Ix.ha ?_)) | (refine Al.hp H ?_; clear H; intro _ _ H _) | (refine St.h H ?_; clear H; intro _ H))
  ((conv => whnf); refine Cl.mk (Flow_yes f A c m _ (RdS.from H.e hA) hS hm hm8) ?_)
  rintro _ w2 ⟨p, ps, rfl, hpl2, hM, e⟩
  replace H := H.fr0 (mx_new hM e) (.inl rfl)
  repeat' (first | ((conv => whnf); first | (((with_reducible show Gd _ _ _); first | with_reducible refine Gd.t ?_ | with_reducible refine Gd.f ?_ | with_reducible refine Gd.dec (fun _ => ?_) (fun _ => ?_) | with_reducible refine Gd.beq (fun _ => ?_) (fun _ => ?_) | with_reducible refine Gd.bne (fun _ => ?_) (fun _ => ?_) | with_reducible refine Gd.not ?_ | refine Gd.t ?_ | refine Gd.f ?_ | with_reducible refine Gd.var (fun _ => ?_) (fun _ => ?_)) <;> first | (exfalso; omega) | skip) | with_reducible refine Sq.mk ?_ | ((with_reducible show Ld1 _ _ _); first | refine Ld1.h H ?_ | refine Ld1.rF ?_ | refine Ld1.r ?_) | ((with_reducible show Ld _ _ _ _); first | refine Ld.h H ?_ | refine Ld.r ?_) | ((with_reducible show Ix _ _ _ _ _); (first | refine Ix.h ?_ | refine Ix.ha ?_)) | (refine Al.hp H ?_; clear H; intro _ _ H _) | (refine St.h H ?_; clear H; intro _ H)) | (((conv => whnf); refine Cl.mk (below_c _ _ _) ?_); rintro _ _ ⟨rfl, hx⟩; replace H := H.ext hx; clear hx))
  all_goals first | (exfalso; simp only [belowB, decide_eq_false_iff_not] at *; omega) | skip
  all_goals
    have hM := H.atC 0 rfl
    obtain ⟨q, hq⟩ : ∃ q, ps[i]? = some q := ⟨_, List.getElem?_eq_getElem (by omega)⟩
    have hr := hM.rd (by omega)
    have hat := hM.at hq
    have hrow := rd_full (hM.row i q hq) (fun _ _ => rfl)
    have hg := rowL_at (g := flwG f i) hsm
    have hlen := hM.len
    have hlen2 := rowL_len m (flwG f i)
    repeat' ((conv => whnf); first | (((with_reducible show Gd _ _ _); first | with_reducible refine Gd.t ?_ | with_reducible refine Gd.f ?_ | with_reducible refine Gd.dec (fun _ => ?_) (fun _ => ?_) | with_reducible refine Gd.beq (fun _ => ?_) (fun _ => ?_) | with_reducible refine Gd.bne (fun _ => ?_) (fun _ => ?_) | with_reducible refine Gd.not ?_ | refine Gd.t ?_ | refine Gd.f ?_ | with_reducible refine Gd.var (fun _ => ?_) (fun _ => ?_)) <;> first | (exfalso; omega) | skip) | with_reducible refine Sq.mk ?_ | ((with_reducible show Ld1 _ _ _); first | refine Ld1.h H ?_ | refine Ld1.rF ?_ | refine Ld1.r ?_) | ((with_reducible show Ld _ _ _ _); first | refine Ld.h H ?_ | refine Ld.r ?_) | ((with_reducible show Ix _ _ _ _ _); (first | refine Ix.h ?_ | refine Ix.ha ?_)) | (refine Al.hp H ?_; clear H; intro _ _ H _) | (refine St.h H ?_; clear H; intro _ H))
    all_goals first | (exfalso; exact absurd (by assumption) h0) | skip
    all_goals
      have H := H.d0
      repeat' ((conv => whnf); first | (((with_reducible show Gd _ _ _); first | with_reducible refine Gd.t ?_ | with_reducible refine Gd.f ?_ | with_reducible refine Gd.dec (fun _ => ?_) (fun _ => ?_) | with_reducible refine Gd.beq (fun _ => ?_) (fun _ => ?_) | with_reducible refine Gd.bne (fun _ => ?_) (fun _ => ?_) | with_reducible refine Gd.not ?_ | refine Gd.t ?_ | refine Gd.f ?_ | with_reducible refine Gd.var (fun _ => ?_) (fun _ => ?_)) <;> first | (exfalso; omega) | skip) | with_reducible refine Sq.mk ?_ | ((with_reducible show Ld1 _ _ _); first | refine Ld1.h H ?_ | refine Ld1.rF ?_ | refine Ld1.r ?_) | ((with_reducible show Ld _ _ _ _); first | refine Ld.h H ?_ | refine Ld.r ?_) | ((with_reducible show Ix _ _ _ _ _); (first | refine Ix.h ?_ | refine Ix.ha ?_)) | (refine Al.hp H ?_; clear H; intro _ _ H _) | (refine St.h H ?_; clear H; intro _ H))
      refine Lp.g0 T.ok (σ := Nat × Pt) (fun s => [(16, .int .i64 (s.1 : Int)), (15, .int .i64 s.2.2), (14, .int .i64 ((pl pts).length : Int)), (4, .slice C (pl pts).length d), (6, .pointer (some ⟨pf, 0, none⟩)), (2, .int .i64 (sl0 : Int)), (3, .int .i64 state)])
        (fun s w' => pts[s.1]? = some s.2 ∧ Hp nw w w' [bk pf 24 (f.v A c).cells.toList]) (fun s _ => pts.length - s.1) (0, (0, 1)) rfl ⟨rfl, rfl, rfl, rfl, rfl, rfl, rfl, trivial⟩ ⟨hp0, H⟩ ?_
      clear H
      rintro ⟨j, x⟩ w3 ⟨hx, H⟩
      simp only at hx H ⊢
      have hjl := (List.getElem?_eq_some_iff.1 hx).1
      have hwj : IntKind.i64.wrap ((j : Int) + 1) = ((j + 1 : Nat) : Int) := w64 (by simp) (by omega) (by omega)
      by_cases hlt : j + 1 < pts.length
      · obtain ⟨y, hy⟩ : ∃ y, pts[j + 1]? = some y := ⟨_, List.getElem?_eq_getElem hlt⟩
        have hlx := (hin x (List.mem_of_getElem? hx)).1
        have hly := (hin y (List.mem_of_getElem? hy)).1
        have hpx : (pl pts)[j]? = some (x.1 : Int) := by simp [pl, hx]
        have hpy : (pl pts)[j + 1]? = some (y.1 : Int) := by simp [pl, hy]
        obtain ⟨ci, hci⟩ : ∃ ci, f.code[x.1]? = some ci := ⟨_, List.getElem?_eq_getElem hlx⟩
        obtain ⟨hmem, hafter⟩ := succ_mem hS hci (hstep j x y hx hy)
        repeat' ((conv => whnf); first | (((with_reducible show Gd _ _ _); first | with_reducible refine Gd.t ?_ | with_reducible refine Gd.f ?_ | with_reducible refine Gd.dec (fun _ => ?_) (fun _ => ?_) | with_reducible refine Gd.beq (fun _ => ?_) (fun _ => ?_) | with_reducible refine Gd.bne (fun _ => ?_) (fun _ => ?_) | with_reducible refine Gd.not ?_ | refine Gd.t ?_ | refine Gd.f ?_ | with_reducible refine Gd.var (fun _ => ?_) (fun _ => ?_)) <;> first | (exfalso; omega) | skip) | with_reducible refine Sq.mk ?_ | ((with_reducible show Ld1 _ _ _); first | refine Ld1.h H ?_ | refine Ld1.rF ?_ | refine Ld1.r ?_) | ((with_reducible show Ld _ _ _ _); first | refine Ld.h H ?_ | refine Ld.r ?_) | ((with_reducible show Ix _ _ _ _ _); (first | refine Ix.h ?_ | refine Ix.ha ?_)) | (refine Al.hp H ?_; clear H; intro _ _ H _) | (refine St.h H ?_; clear H; intro _ H))
        ((conv => whnf); refine Dr.tail T.ok mixed 5 (by kernel_rfl) (fun W wT hW eT _ => ?_); (repeat' ((conv => whnf); first | (((with_reducible show Gd _ _ _); first | with_reducible refine Gd.t ?_ | with_reducible refine Gd.f ?_ | with_reducible refine Gd.dec (fun _ => ?_) (fun _ => ?_) | with_reducible refine Gd.beq (fun _ => ?_) (fun _ => ?_) | with_reducible refine Gd.bne (fun _ => ?_) (fun _ => ?_) | with_reducible refine Gd.not ?_ | refine Gd.t ?_ | refine Gd.f ?_ | with_reducible refine Gd.var (fun _ => ?_) (fun _ => ?_)) <;> first | (exfalso; omega) | skip) | ((with_reducible show QLd1 _ _ _); first | refine QLd1.h hW H ?_ | refine QLd1.rF hW ?_ | refine QLd1.r hW ?_) | ((with_reducible show QLd _ _ _ _); first | refine QLd.h hW H ?_ | refine QLd.r hW ?_) | ((with_reducible show Ix _ _ _ _ _); (first | refine Ix.h ?_ | refine Ix.ha ?_)))); replace H := H.ext eT; clear hW eT)
        repeat' ((conv => whnf); first | (((with_reducible show Gd _ _ _); first | with_reducible refine Gd.t ?_ | with_reducible refine Gd.f ?_ | with_reducible refine Gd.dec (fun _ => ?_) (fun _ => ?_) | with_reducible refine Gd.beq (fun _ => ?_) (fun _ => ?_) | with_reducible refine Gd.bne (fun _ => ?_) (fun _ => ?_) | with_reducible refine Gd.not ?_ | refine Gd.t ?_ | refine Gd.f ?_ | with_reducible refine Gd.var (fun _ => ?_) (fun _ => ?_)) <;> first | (exfalso; omega) | skip) | with_reducible refine Sq.mk ?_ | ((with_reducible show Ld1 _ _ _); first | refine Ld1.h H ?_ | refine Ld1.rF ?_ | refine Ld1.r ?_) | ((with_reducible show Ld _ _ _ _); first | refine Ld.h H ?_ | refine Ld.r ?_) | ((with_reducible show Ix _ _ _ _ _); (first | refine Ix.h ?_ | refine Ix.ha ?_)) | (refine Al.hp H ?_; clear H; intro _ _ H _) | (refine St.h H ?_; clear H; intro _ H))
        ((conv => whnf); refine Cl.mk (Nexts_c f A c x.1 ci _ (RdS.from H.e hA) hci hl2) ?_)
        rintro _ w4 ⟨An, rfl, hrn, e4, hfr⟩
        replace H := H.fr0 (rk_new hrn e4 hfr) (.inr rfl)
        repeat' ((conv => whnf); first | (((with_reducible show Gd _ _ _); first | with_reducible refine Gd.t ?_ | with_reducible refine Gd.f ?_ | with_reducible refine Gd.dec (fun _ => ?_) (fun _ => ?_) | with_reducible refine Gd.beq (fun _ => ?_) (fun _ => ?_) | with_reducible refine Gd.bne (fun _ => ?_) (fun _ => ?_) | with_reducible refine Gd.not ?_ | refine Gd.t ?_ | refine Gd.f ?_ | with_reducible refine Gd.var (fun _ => ?_) (fun _ => ?_)) <;> first | (exfalso; omega) | skip) | with_reducible refine Sq.mk ?_ | ((with_reducible show Ld1 _ _ _); first | refine Ld1.h H ?_ | refine Ld1.rF ?_ | refine Ld1.r ?_) | ((with_reducible show Ld _ _ _ _); first | refine Ld.h H ?_ | refine Ld.r ?_) | ((with_reducible show Ix _ _ _ _ _); (first | refine Ix.h ?_ | refine Ix.ha ?_)) | (refine Al.hp H ?_; clear H; intro _ _ H _) | (refine St.h H ?_; clear H; intro _ H))
        refine Lp.g0 T.ok (σ := Nat) (fun k => [(19, .int .i64 (k : Int)), (18, .bool (decide ((y.1 : Int) ∈ (nextsS x.1 ci).take k))), (17, .slice An (nextsS x.1 ci).length (nextsS x.1 ci).length), (16, .int .i64 (j : Int)), (15, .int .i64 x.2), (14, .int .i64 ((pl pts).length : Int)), (4, .slice C (pl pts).length d), (6, .pointer (some ⟨pf, 0, none⟩)), (2, .int .i64 (sl0 : Int)), (3, .int .i64 state)])
          (fun k w' => k ≤ (nextsS x.1 ci).length ∧ Hp nw w w' [rk ints 1 An (nextsS x.1 ci), bk pf 24 (f.v A c).cells.toList]) (fun k _ => (nextsS x.1 ci).length - k) 0 rfl ⟨rfl, by simp; rfl, rfl, rfl, rfl, rfl, rfl, rfl, rfl, rfl, trivial⟩ ⟨Nat.zero_le _, H⟩ ?_
        clear H
        rintro k w5 ⟨hk, H⟩
        have hwk : IntKind.i64.wrap ((k : Int) + 1) = ((k + 1 : Nat) : Int) := w64 (by simp) (by have := nexts_len x.1 ci; omega) (by have := nexts_len x.1 ci; omega)
        by_cases hkl : k < (nextsS x.1 ci).length
        · obtain ⟨z, hz⟩ : ∃ z, (nextsS x.1 ci)[k]? = some z := ⟨_, List.getElem?_eq_getElem hkl⟩
          have htm := take_mem (x := (y.1 : Int)) hz
          repeat' ((conv => whnf); first | (((with_reducible show Gd _ _ _); first | with_reducible refine Gd.t ?_ | with_reducible refine Gd.f ?_ | with_reducible refine Gd.dec (fun _ => ?_) (fun _ => ?_) | with_reducible refine Gd.beq (fun _ => ?_) (fun _ => ?_) | with_reducible refine Gd.bne (fun _ => ?_) (fun _ => ?_) | with_reducible refine Gd.not ?_ | refine Gd.t ?_ | refine Gd.f ?_ | with_reducible refine Gd.var (fun _ => ?_) (fun _ => ?_)) <;> first | (exfalso; omega) | skip) | with_reducible refine Sq.mk ?_ | ((with_reducible show Ld1 _ _ _); first | refine Ld1.h H ?_ | refine Ld1.rF ?_ | refine Ld1.r ?_) | ((with_reducible show Ld _ _ _ _); first | refine Ld.h H ?_ | refine Ld.r ?_) | ((with_reducible show Ix _ _ _ _ _); (first | refine Ix.h ?_ | refine Ix.ha ?_)) | (refine Al.hp H ?_; clear H; intro _ _ H _) | (refine St.h H ?_; clear H; intro _ H))
          ((conv => whnf); refine Dr.quiet T.ok mixed (by kernel_rfl) (fun W hW => ?_))
          repeat' ((conv => whnf); first | (((with_reducible show Gd _ _ _); first | with_reducible refine Gd.t ?_ | with_reducible refine Gd.f ?_ | with_reducible refine Gd.dec (fun _ => ?_) (fun _ => ?_) | with_reducible refine Gd.beq (fun _ => ?_) (fun _ => ?_) | with_reducible refine Gd.bne (fun _ => ?_) (fun _ => ?_) | with_reducible refine Gd.not ?_ | refine Gd.t ?_ | refine Gd.f ?_ | with_reducible refine Gd.var (fun _ => ?_) (fun _ => ?_)) <;> first | (exfalso; omega) | skip) | ((with_reducible show QLd1 _ _ _); first | refine QLd1.h hW H ?_ | refine QLd1.rF hW ?_ | refine QLd1.r hW ?_) | ((with_reducible show QLd _ _ _ _); first | refine QLd.h hW H ?_ | refine QLd.r hW ?_) | ((with_reducible show Ix _ _ _ _ _); (first | refine Ix.h ?_ | refine Ix.ha ?_)))
          all_goals
            (intro _ eT; replace H := H.ext eT; clear hW eT)
            repeat' ((conv => whnf); first | (((with_reducible show Gd _ _ _); first | with_reducible refine Gd.t ?_ | with_reducible refine Gd.f ?_ | with_reducible refine Gd.dec (fun _ => ?_) (fun _ => ?_) | with_reducible refine Gd.beq (fun _ => ?_) (fun _ => ?_) | with_reducible refine Gd.bne (fun _ => ?_) (fun _ => ?_) | with_reducible refine Gd.not ?_ | refine Gd.t ?_ | refine Gd.f ?_ | with_reducible refine Gd.var (fun _ => ?_) (fun _ => ?_)) <;> first | (exfalso; omega) | skip) | with_reducible refine Sq.mk ?_ | ((with_reducible show Ld1 _ _ _); first | refine Ld1.h H ?_ | refine Ld1.rF ?_ | refine Ld1.r ?_) | ((with_reducible show Ld _ _ _ _); first | refine Ld.h H ?_ | refine Ld.r ?_) | ((with_reducible show Ix _ _ _ _ _); (first | refine Ix.h ?_ | refine Ix.ha ?_)) | (refine Al.hp H ?_; clear H; intro _ _ H _) | (refine St.h H ?_; clear H; intro _ H))
            refine ⟨k + 1, ⟨at_int rfl hwk, at_val rfl (b_eq ?_), rfl, rfl, rfl, rfl, rfl, rfl, rfl, rfl, trivial⟩, rfl, ⟨by omega, H⟩, by omega⟩
            rw [Bool.eq_iff_iff, decide_eq_true_eq, htm]; first | (exact ⟨fun _ => .inl (by assumption), fun _ => rfl⟩) | (rw [beq_iff_eq]; exact ⟨fun h => .inr h.symm, fun h => h.elim (fun h => absurd h (by assumption)) Eq.symm⟩)
        · have hk : k = (nextsS x.1 ci).length := by omega
          subst hk
          rw [List.take_length]
          repeat' ((conv => whnf); first | (((with_reducible show Gd _ _ _); first | with_reducible refine Gd.t ?_ | with_reducible refine Gd.f ?_ | with_reducible refine Gd.dec (fun _ => ?_) (fun _ => ?_) | with_reducible refine Gd.beq (fun _ => ?_) (fun _ => ?_) | with_reducible refine Gd.bne (fun _ => ?_) (fun _ => ?_) | with_reducible refine Gd.not ?_ | refine Gd.t ?_ | refine Gd.f ?_ | with_reducible refine Gd.var (fun _ => ?_) (fun _ => ?_)) <;> first | (exfalso; omega) | skip) | with_reducible refine Sq.mk ?_ | ((with_reducible show Ld1 _ _ _); first | refine Ld1.h H ?_ | refine Ld1.rF ?_ | refine Ld1.r ?_) | ((with_reducible show Ld _ _ _ _); first | refine Ld.h H ?_ | refine Ld.r ?_) | ((with_reducible show Ix _ _ _ _ _); (first | refine Ix.h ?_ | refine Ix.ha ?_)) | (refine Al.hp H ?_; clear H; intro _ _ H _) | (refine St.h H ?_; clear H; intro _ H))
          all_goals first | (exfalso; contradiction) | skip
          repeat' ((conv => whnf); first | (((with_reducible show Gd _ _ _); first | with_reducible refine Gd.t ?_ | with_reducible refine Gd.f ?_ | with_reducible refine Gd.dec (fun _ => ?_) (fun _ => ?_) | with_reducible refine Gd.beq (fun _ => ?_) (fun _ => ?_) | with_reducible refine Gd.bne (fun _ => ?_) (fun _ => ?_) | with_reducible refine Gd.not ?_ | refine Gd.t ?_ | refine Gd.f ?_ | with_reducible refine Gd.var (fun _ => ?_) (fun _ => ?_)) <;> first | (exfalso; omega) | skip) | with_reducible refine Sq.mk ?_ | ((with_reducible show Ld1 _ _ _); first | refine Ld1.h H ?_ | refine Ld1.rF ?_ | refine Ld1.r ?_) | ((with_reducible show Ld _ _ _ _); first | refine Ld.h H ?_ | refine Ld.r ?_) | ((with_reducible show Ix _ _ _ _ _); (first | refine Ix.h ?_ | refine Ix.ha ?_)) | (refine Al.hp H ?_; clear H; intro _ _ H _) | (refine St.h H ?_; clear H; intro _ H))
          replace H := H.d0
          ((conv => whnf); refine Dr.quiet T.ok mixed (by kernel_rfl) (fun W hW => ?_))
          repeat' (first | ((conv => whnf); first | (((with_reducible show Gd _ _ _); first | with_reducible refine Gd.t ?_ | with_reducible refine Gd.f ?_ | with_reducible refine Gd.dec (fun _ => ?_) (fun _ => ?_) | with_reducible refine Gd.beq (fun _ => ?_) (fun _ => ?_) | with_reducible refine Gd.bne (fun _ => ?_) (fun _ => ?_) | with_reducible refine Gd.not ?_ | refine Gd.t ?_ | refine Gd.f ?_ | with_reducible refine Gd.var (fun _ => ?_) (fun _ => ?_)) <;> first | (exfalso; omega) | skip) | ((with_reducible show QLd1 _ _ _); first | refine QLd1.h hW H ?_ | refine QLd1.rF hW ?_ | refine QLd1.r hW ?_) | ((with_reducible show QLd _ _ _ _); first | refine QLd.h hW H ?_ | refine QLd.r hW ?_) | ((with_reducible show Ix _ _ _ _ _); (first | refine Ix.h ?_ | refine Ix.ha ?_))) | ((conv => whnf); refine QCl.mk hW (fun _ ee => Cl.mk (After_c _ _ _ _) (fun _ _ h => h)) ?_))
          (intro _ eT; replace H := H.ext eT; clear hW eT)
          repeat' ((conv => whnf); first | (((with_reducible show Gd _ _ _); first | with_reducible refine Gd.t ?_ | with_reducible refine Gd.f ?_ | with_reducible refine Gd.dec (fun _ => ?_) (fun _ => ?_) | with_reducible refine Gd.beq (fun _ => ?_) (fun _ => ?_) | with_reducible refine Gd.bne (fun _ => ?_) (fun _ => ?_) | with_reducible refine Gd.not ?_ | refine Gd.t ?_ | refine Gd.f ?_ | with_reducible refine Gd.var (fun _ => ?_) (fun _ => ?_)) <;> first | (exfalso; omega) | skip) | with_reducible refine Sq.mk ?_ | ((with_reducible show Ld1 _ _ _); first | refine Ld1.h H ?_ | refine Ld1.rF ?_ | refine Ld1.r ?_) | ((with_reducible show Ld _ _ _ _); first | refine Ld.h H ?_ | refine Ld.r ?_) | ((with_reducible show Ix _ _ _ _ _); (first | refine Ix.h ?_ | refine Ix.ha ?_)) | (refine Al.hp H ?_; clear H; intro _ _ H _) | (refine St.h H ?_; clear H; intro _ H))
          refine ⟨(j + 1, y), ⟨at_int rfl hwj, at_val rfl (by rw [hafter]), rfl, rfl, rfl, rfl, rfl, trivial⟩, rfl, ⟨hy, H⟩, by simp only; omega⟩
      · have hj : j + 1 = pts.length := by omega
        have hlast : x = (i, state) := by
          rw [List.getLast?_eq_getElem?, ← hj, Nat.add_sub_cancel, hx] at hpl
          simpa using hpl
        subst hlast
        repeat' ((conv => whnf); first | (((with_reducible show Gd _ _ _); first | with_reducible refine Gd.t ?_ | with_reducible refine Gd.f ?_ | with_reducible refine Gd.dec (fun _ => ?_) (fun _ => ?_) | with_reducible refine Gd.beq (fun _ => ?_) (fun _ => ?_) | with_reducible refine Gd.bne (fun _ => ?_) (fun _ => ?_) | with_reducible refine Gd.not ?_ | refine Gd.t ?_ | refine Gd.f ?_ | with_reducible refine Gd.var (fun _ => ?_) (fun _ => ?_)) <;> first | (exfalso; omega) | skip) | with_reducible refine Sq.mk ?_ | ((with_reducible show Ld1 _ _ _); first | refine Ld1.h H ?_ | refine Ld1.rF ?_ | refine Ld1.r ?_) | ((with_reducible show Ld _ _ _ _); first | refine Ld.h H ?_ | refine Ld.r ?_) | ((with_reducible show Ix _ _ _ _ _); (first | refine Ix.h ?_ | refine Ix.ha ?_)) | (refine Al.hp H ?_; clear H; intro _ _ H _) | (refine St.h H ?_; clear H; intro _ H))
        exact ⟨b_eq (by simp), H.e⟩
end Go.Proofs.YtbbadmlekagloaaDoor
