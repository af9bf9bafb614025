/- own work: PgQ, PgW, PgX, ShR, PgY, ShS, PhB, PhC, PhD -/
import Derived.Recover
import Derived.Test.YtbbadmlekagloaaDoorMD3
namespace Go.Proofs.YtbbadmlekagloaaDoor
open Go Go.Sh
attribute [local irreducible] Blk Ext RdS
noncomputable def flowRows (f : Fn) : List (List Int) := if soundB f = true then matL f.code.length f.slots.toNat (flwG f) else []
def IsFlow (f : Fn) (w : World) (v : Value) (w' : World) : Prop := ∃ A n m ps, v = .slice A n n ∧ MX w' w.heap.size A n m ps (flwG f) ∧ n ≤ 512 ∧ m ≤ 8 ∧ matL n m (flwG f) = flowRows f ∧ Ext w w'
theorem IsRows.flow {f : Fn} {m : Nat} {w w' : World} {v : Value} (hS : soundB f = true) (hm : f.slots = (m : Int)) (hm8 : m ≤ 8) (h : IsRows f.code.length m (flwG f) w v w') : IsFlow f w v w' := by
  obtain ⟨p, ps, rfl, hl, hM, e⟩ := h
  have hsh : shapedB f = true := by simp only [soundB, Bool.and_eq_true] at hS; exact hS.1.1
  refine ⟨_, _, m, ps, rfl, .inr ⟨p, rfl, hl, hM⟩, (shaped_len hsh).2, hm8, ?_, e⟩
  unfold flowRows
  rw [if_pos hS, hm]; rfl
theorem noFlow {f : Fn} {w w' : World} {v : Value} (hS : soundB f = false) (h : v = .slice none 0 0 ∧ Ext w w') : IsFlow f w v w' :=
  ⟨none, 0, 0, [], h.1, .inl ⟨rfl, rfl, rfl⟩, by omega, by omega, by unfold flowRows; simp [hS, matL], h.2⟩
theorem rFlow_c (f : Fn) (A : Option Addr) (c : Nat) (w : World) (hA : RdC w A f.code) : Cl Tryd.prog 15 #[f.v A c] w (IsFlow f w) (fun _ _ => False) := by
  by_cases hS : soundB f = true
  · have hsh : shapedB f = true := by simp only [soundB, Bool.and_eq_true] at hS; exact hS.1.1
    obtain ⟨m, hm, hm8⟩ := slots_nat hsh
    exact Cl.mk (Flow_yes f A c m w hA hS hm hm8) fun v w' h => IsRows.flow hS hm hm8 h
  · have hS : soundB f = false := by simpa using hS
    exact Cl.mk (Flow_no f A c w hA hS) fun v w' h => noFlow hS h
theorem pFlow_c (f : Fn) (A : Option Addr) (c : Nat) (w : World) (hA : RdC w A f.code) (hG : RdG w) : Cl Tryd.prog 17 #[f.v A c] w (IsFlow f w) (fun _ _ => False) := by
  by_cases hS : soundB f = true
  · have hsh : shapedB f = true := by simp only [soundB, Bool.and_eq_true] at hS; exact hS.1.1
    obtain ⟨m, hm, hm8⟩ := slots_nat hsh
    exact Cl.mk (pFlow_yes f A c m w hA hG hS hm hm8) fun v w' h => IsRows.flow hS hm hm8 h
  · have hS : soundB f = false := by simpa using hS
    exact Cl.mk (pFlow_no f A c w hA hG hS) fun v w' h => noFlow hS h
theorem turned_v (f : Fn) (A : Option Addr) (c : Nat) : (turnedF f).v A c = f.v A c := by simp [Fn.v, turned_len]; exact ⟨rfl, rfl, rfl⟩
theorem RdS.upd2 {α : Type} {enc : α → List Value} {sz b : Nat} {w w' : World} {A : Option Addr} {l : List α} (h : RdS enc sz w A l) (u : Upd b w w') (hne : l = [] ∨ obk A ≠ some b) : RdS enc sz w' A l := by
  rcases hne with rfl | hne
  · exact RdS.nil
  · exact h.upd u hne
theorem RdS.off {α : Type} {enc : α → List Value} {sz b : Nat} {w : World} {A : Option Addr} {l : List α} (h : RdS enc sz w A l) (hb : w.heap.size ≤ b) : l = [] ∨ obk A ≠ some b := by
  by_cases hl : l = []
  · exact .inl hl
  · exact .inr fun e => by have := h.lt hl b e; omega
theorem rd_pre {p : Nat} {l m : List Ins} {w : World} (h : Blk w p 35 ((l ++ m).flatMap Ins.enc)) : RdC w (some ⟨p, 0, none⟩) l := by
  have := RdS.take (k := l.length) (rd_of_code h)
  rw [List.take_left] at this
  exact this
theorem lay_set {l t o : List Ins} {i : Nat} {x : Ins} (hlt : t.length = l.length) (hx : l[i]? = some x) : (l.take i ++ t.drop i ++ o).set i x = l.take (i + 1) ++ t.drop (i + 1) ++ o := by
  obtain ⟨h1, h2⟩ := List.getElem?_eq_some_iff.1 hx
  have h3 : t.drop i = t[i]'(by omega) :: t.drop (i + 1) := List.drop_eq_getElem_cons (by omega)
  have e0 : i - (l.take i).length = 0 := by rw [List.length_take]; omega
  rw [List.append_assoc, List.set_append_right _ _ (by rw [List.length_take]; omega), e0, h3, List.take_succ_eq_append_getElem h1, h2, List.cons_append, List.set_cons_zero, List.append_assoc, List.append_assoc]
  rfl
theorem flowPlaced_c (f : Fn) (A : Option Addr) (c : Nat) (w : World) (hA : RdC w A f.code) (hG : RdG w) (hl : f.code.length ≤ 1048576) :
    Cl Tryd.prog 24 #[f.v A c] w (fun v w' => v = .bool true ∧ Ext w w') (fun _ _ => False) := by
  refine calls_ex (args := [f.v A c]) T.ok Tryd.func24 rfl rfl rfl rfl ?_
  refine Sq.mk ?_
  refine Al.mk fun pf w1 hpf hb e1 hs1 => ?_
  repeat' (first | (show Gd _ _ _; first | with_reducible refine Gd.t ?_ | with_reducible refine Gd.f ?_ | with_reducible refine Gd.dec (fun _ => ?_) (fun _ => ?_) | with_reducible refine Gd.beq (fun _ => ?_) (fun _ => ?_) | with_reducible refine Gd.bne (fun _ => ?_) (fun _ => ?_) | with_reducible refine Gd.not ?_ | refine Gd.t ?_ | refine Gd.f ?_ | with_reducible refine Gd.var (fun _ => ?_) (fun _ => ?_)) | (show Sq _ _ _; refine Sq.mk ?_) | (show Ld1 _ _ _; first | (apply Ld1.blk; (focus ((repeat (first | assumption | (apply Blk.from; assumption))); done)); rfl) | (apply Ld1.rsF; (focus ((repeat (first | assumption | (apply RdS.from; assumption))); done)); assumption; rfl) | (apply Ld1.rs; (focus ((repeat (first | assumption | (apply RdS.from; assumption))); done)); assumption; rfl)) | (show Ld _ _ _ _; first | (apply Ld.blk; (focus ((repeat (first | assumption | (apply Blk.from; assumption))); done)); rfl) | (apply Ld.rs; (focus ((repeat (first | assumption | (apply RdS.from; assumption))); done)); assumption)) | (show Ix _ _ _ _ _; first | (apply Ix.rs; (focus ((repeat (first | assumption | (apply RdS.from; assumption))); done)); (first | with_reducible rfl | assumption); (first | assumption | omega)) | (apply Ix.arr; (focus ((repeat (first | assumption | (apply RdS.from; assumption))); done)); (first | assumption | (simp; done)); (first | with_reducible rfl | assumption); (first | assumption | omega))) | (show Al _ _ _ _; refine Al.mk (fun _ _ _ _ _ _ => ?_)) | (show St _ _ _ _; apply St.new; assumption; assumption; assumption; rfl; rfl; intro _ _ _ _))
  (show Cl _ _ _ _ _ _; refine Cl.mk (turned_c f A c _ (by (focus ((repeat (first | assumption | (apply RdS.from; assumption))); done))) hl) ?_)
  rintro _ w2 ⟨C, d, rfl, hC, e2, _, _⟩
  have hb := hb.ext e2
  have e02 := e1.trans e2
  clear e1 e2 hs1
  repeat' (first | (show Gd _ _ _; first | with_reducible refine Gd.t ?_ | with_reducible refine Gd.f ?_ | with_reducible refine Gd.dec (fun _ => ?_) (fun _ => ?_) | with_reducible refine Gd.beq (fun _ => ?_) (fun _ => ?_) | with_reducible refine Gd.bne (fun _ => ?_) (fun _ => ?_) | with_reducible refine Gd.not ?_ | refine Gd.t ?_ | refine Gd.f ?_ | with_reducible refine Gd.var (fun _ => ?_) (fun _ => ?_)) | (show Sq _ _ _; refine Sq.mk ?_) | (show Ld1 _ _ _; first | (apply Ld1.blk; (focus ((repeat (first | assumption | (apply Blk.from; assumption))); done)); rfl) | (apply Ld1.rsF; (focus ((repeat (first | assumption | (apply RdS.from; assumption))); done)); assumption; rfl) | (apply Ld1.rs; (focus ((repeat (first | assumption | (apply RdS.from; assumption))); done)); assumption; rfl)) | (show Ld _ _ _ _; first | (apply Ld.blk; (focus ((repeat (first | assumption | (apply Blk.from; assumption))); done)); rfl) | (apply Ld.rs; (focus ((repeat (first | assumption | (apply RdS.from; assumption))); done)); assumption)) | (show Ix _ _ _ _ _; first | (apply Ix.rs; (focus ((repeat (first | assumption | (apply RdS.from; assumption))); done)); (first | with_reducible rfl | assumption); (first | assumption | omega)) | (apply Ix.arr; (focus ((repeat (first | assumption | (apply RdS.from; assumption))); done)); (first | assumption | (simp; done)); (first | with_reducible rfl | assumption); (first | assumption | omega))) | (show Al _ _ _ _; refine Al.mk (fun _ _ _ _ _ _ => ?_)) | (show St _ _ _ _; apply St.new; assumption; assumption; assumption; rfl; rfl; intro _ _ _ _))
  rename_i pt wt0 hpt hbt0 et0 hst0 wt et hbt hst
  replace hbt : Blk wt pt 24 ((turnedF f).v C d).cells.toList := hbt
  have e0t := e02.trans et
  have hb := hb.ext et
  have hC := RdS.from et hC
  clear hbt0 et0 hst0 hst et e02
  repeat' (first | (show Gd _ _ _; first | with_reducible refine Gd.t ?_ | with_reducible refine Gd.f ?_ | with_reducible refine Gd.dec (fun _ => ?_) (fun _ => ?_) | with_reducible refine Gd.beq (fun _ => ?_) (fun _ => ?_) | with_reducible refine Gd.bne (fun _ => ?_) (fun _ => ?_) | with_reducible refine Gd.not ?_ | refine Gd.t ?_ | refine Gd.f ?_ | with_reducible refine Gd.var (fun _ => ?_) (fun _ => ?_)) | (show Sq _ _ _; refine Sq.mk ?_) | (show Ld1 _ _ _; first | (apply Ld1.blk; (focus ((repeat (first | assumption | (apply Blk.from; assumption))); done)); rfl) | (apply Ld1.rsF; (focus ((repeat (first | assumption | (apply RdS.from; assumption))); done)); assumption; rfl) | (apply Ld1.rs; (focus ((repeat (first | assumption | (apply RdS.from; assumption))); done)); assumption; rfl)) | (show Ld _ _ _ _; first | (apply Ld.blk; (focus ((repeat (first | assumption | (apply Blk.from; assumption))); done)); rfl) | (apply Ld.rs; (focus ((repeat (first | assumption | (apply RdS.from; assumption))); done)); assumption)) | (show Ix _ _ _ _ _; first | (apply Ix.rs; (focus ((repeat (first | assumption | (apply RdS.from; assumption))); done)); (first | with_reducible rfl | assumption); (first | assumption | omega)) | (apply Ix.arr; (focus ((repeat (first | assumption | (apply RdS.from; assumption))); done)); (first | assumption | (simp; done)); (first | with_reducible rfl | assumption); (first | assumption | omega))) | (show Al _ _ _ _; refine Al.mk (fun _ _ _ _ _ _ => ?_)) | (show St _ _ _ _; apply St.new; assumption; assumption; assumption; rfl; rfl; intro _ _ _ _))
  (show Cl _ _ _ _ _ _; refine Cl.mk (spare_c (turnedF f) C d _ hC (by rw [turned_len]; exact hl)) ?_)
  rintro _ w3 ⟨p, rfl, hplo, hbp, e3⟩
  have hCp := RdS.off hC hplo
  have e03 := e0t.trans e3
  have hb := hb.ext e3
  have hbt := hbt.ext e3
  have hC := RdS.from e3 hC
  have hplo : w.heap.size ≤ p := Nat.le_trans e0t.size hplo
  clear e0t e3
  repeat' (first | (show Gd _ _ _; first | with_reducible refine Gd.t ?_ | with_reducible refine Gd.f ?_ | with_reducible refine Gd.dec (fun _ => ?_) (fun _ => ?_) | with_reducible refine Gd.beq (fun _ => ?_) (fun _ => ?_) | with_reducible refine Gd.bne (fun _ => ?_) (fun _ => ?_) | with_reducible refine Gd.not ?_ | refine Gd.t ?_ | refine Gd.f ?_ | with_reducible refine Gd.var (fun _ => ?_) (fun _ => ?_)) | (show Sq _ _ _; refine Sq.mk ?_) | (show Ld1 _ _ _; first | (apply Ld1.blk; (focus ((repeat (first | assumption | (apply Blk.from; assumption))); done)); rfl) | (apply Ld1.rsF; (focus ((repeat (first | assumption | (apply RdS.from; assumption))); done)); assumption; rfl) | (apply Ld1.rs; (focus ((repeat (first | assumption | (apply RdS.from; assumption))); done)); assumption; rfl)) | (show Ld _ _ _ _; first | (apply Ld.blk; (focus ((repeat (first | assumption | (apply Blk.from; assumption))); done)); rfl) | (apply Ld.rs; (focus ((repeat (first | assumption | (apply RdS.from; assumption))); done)); assumption)) | (show Ix _ _ _ _ _; first | (apply Ix.rs; (focus ((repeat (first | assumption | (apply RdS.from; assumption))); done)); (first | with_reducible rfl | assumption); (first | assumption | omega)) | (apply Ix.arr; (focus ((repeat (first | assumption | (apply RdS.from; assumption))); done)); (first | assumption | (simp; done)); (first | with_reducible rfl | assumption); (first | assumption | omega))) | (show Al _ _ _ _; refine Al.mk (fun _ _ _ _ _ _ => ?_)) | (show St _ _ _ _; apply St.new; assumption; assumption; assumption; rfl; rfl; intro _ _ _ _))
  rename_i pg wg0 hpg hbg0 eg0 hsg0 wg eg hbg hsg
  replace hbg : Blk wg pg 24 ((turnedF f).v (some ⟨p, 0, none⟩) ((turnedF f).code.length + 2)).cells.toList := hbg
  have e0g := e03.trans eg
  have hb := hb.ext eg
  have hbt := hbt.ext eg
  have hC := RdS.from eg hC
  have hbp := hbp.ext eg
  clear hbg0 eg0 hsg0 hsg eg e03
  (show Cl _ _ _ _ _ _; refine Cl.mk (pFlow_c (turnedF f) (some ⟨p, 0, none⟩) _ _ (rd_pre hbp) (RdS.from e0g hG)) ?_)
  rintro _ w4 ⟨A1, n1, m1, ps1, rfl, hM1, hn1, hm1, hr1, e4⟩
  have hp1 : p < wg.heap.size := hbp.lt
  have e04 := e0g.trans e4
  have hb := hb.ext e4
  have hbt := hbt.ext e4
  have hC := RdS.from e4 hC
  have hbp := hbp.ext e4
  have hbg := hbg.ext e4
  rw [turned_v] at hbg
  rw [turned_len] at hbg
  have hpf : pf ≠ p := hb.ne hbp (by decide)
  have hpt : pt ≠ p := hbt.ne hbp (by decide)
  have hpg : pg ≠ p := hbg.ne hbp (by decide)
  have hAp : f.code = [] ∨ obk A ≠ some p := RdS.off hA hplo
  clear e4 e0g
  repeat' (first | (show Gd _ _ _; first | with_reducible refine Gd.t ?_ | with_reducible refine Gd.f ?_ | with_reducible refine Gd.dec (fun _ => ?_) (fun _ => ?_) | with_reducible refine Gd.beq (fun _ => ?_) (fun _ => ?_) | with_reducible refine Gd.bne (fun _ => ?_) (fun _ => ?_) | with_reducible refine Gd.not ?_ | refine Gd.t ?_ | refine Gd.f ?_ | with_reducible refine Gd.var (fun _ => ?_) (fun _ => ?_)) | (show Sq _ _ _; refine Sq.mk ?_) | (show Ld1 _ _ _; first | (apply Ld1.blk; (focus ((repeat (first | assumption | (apply Blk.from; assumption))); done)); rfl) | (apply Ld1.rsF; (focus ((repeat (first | assumption | (apply RdS.from; assumption))); done)); assumption; rfl) | (apply Ld1.rs; (focus ((repeat (first | assumption | (apply RdS.from; assumption))); done)); assumption; rfl)) | (show Ld _ _ _ _; first | (apply Ld.blk; (focus ((repeat (first | assumption | (apply Blk.from; assumption))); done)); rfl) | (apply Ld.rs; (focus ((repeat (first | assumption | (apply RdS.from; assumption))); done)); assumption)) | (show Ix _ _ _ _ _; first | (apply Ix.rs; (focus ((repeat (first | assumption | (apply RdS.from; assumption))); done)); (first | with_reducible rfl | assumption); (first | assumption | omega)) | (apply Ix.arr; (focus ((repeat (first | assumption | (apply RdS.from; assumption))); done)); (first | assumption | (simp; done)); (first | with_reducible rfl | assumption); (first | assumption | omega))) | (show Al _ _ _ _; refine Al.mk (fun _ _ _ _ _ _ => ?_)) | (show St _ _ _ _; apply St.new; assumption; assumption; assumption; rfl; rfl; intro _ _ _ _))
  have hS1 : ∀ b, obk A1 = some b → b ≠ p := fun b hb => by have := (hM1.top b hb).1; omega
  have hS2 : ∀ q ∈ ps1, q ≠ p := fun q hq => by have := hM1.lo q hq; omega
  refine Lp.g0 T.ok (σ := Nat) (fun i => [(7, .int .i64 (i : Int)), (5, .slice (some ⟨p, 0, none⟩) ((turnedF f).code.length + 2) ((turnedF f).code.length + 2)), (6, .slice A1 n1 n1), (1, .pointer (some ⟨pf, 0, none⟩)), (3, .pointer (some ⟨pt, 0, none⟩)), (4, .pointer (some ⟨pg, 0, none⟩))])
    (fun i w' => i ≤ f.code.length ∧ Blk w' p 35 ((f.code.take i ++ (turnedF f).code.drop i ++ [oddI 0, oddI 1]).flatMap Ins.enc) ∧ MX w' wg.heap.size A1 n1 m1 ps1 (flwG (turnedF f)) ∧ Blk w' pf 24 (f.v A c).cells.toList ∧ Blk w' pt 24 ((turnedF f).v C d).cells.toList ∧
      Blk w' pg 24 (f.v (some ⟨p, 0, none⟩) (f.code.length + 2)).cells.toList ∧ RdC w' C (turnedF f).code ∧ Ext w w') (fun i _ => f.code.length - i) 0 rfl ⟨rfl, rfl, rfl, rfl, rfl, rfl, trivial⟩ ⟨by omega, by simpa using hbp, hM1, hb, hbt, hbg, hC, e04⟩ ?_
  clear hM1 hbp hb hbt hbg hC e04
  rintro i w5 ⟨hi, hbp, hM1, hb, hbt, hbg, hC, e05⟩
  have hA5 := RdS.from e05 hA
  by_cases hlt : i < f.code.length
  · obtain ⟨x, hx⟩ : ∃ x, f.code[i]? = some x := ⟨_, List.getElem?_eq_getElem hlt⟩
    have hrp := rd_of_code hbp
    have hlp : (f.code.take i ++ (turnedF f).code.drop i ++ [oddI 0, oddI 1]).length = (turnedF f).code.length + 2 := by
      have := turned_len f
      simp; omega
    have hlp2 := turned_len f
    repeat' (first | ((show Gd _ _ _; first | with_reducible refine Gd.t ?_ | with_reducible refine Gd.f ?_ | with_reducible refine Gd.dec (fun _ => ?_) (fun _ => ?_) | with_reducible refine Gd.beq (fun _ => ?_) (fun _ => ?_) | with_reducible refine Gd.bne (fun _ => ?_) (fun _ => ?_) | with_reducible refine Gd.not ?_ | refine Gd.t ?_ | refine Gd.f ?_ | with_reducible refine Gd.var (fun _ => ?_) (fun _ => ?_)) <;> first | (exfalso; omega) | skip) | (first | (show Gd _ _ _; first | with_reducible refine Gd.t ?_ | with_reducible refine Gd.f ?_ | with_reducible refine Gd.dec (fun _ => ?_) (fun _ => ?_) | with_reducible refine Gd.beq (fun _ => ?_) (fun _ => ?_) | with_reducible refine Gd.bne (fun _ => ?_) (fun _ => ?_) | with_reducible refine Gd.not ?_ | refine Gd.t ?_ | refine Gd.f ?_ | with_reducible refine Gd.var (fun _ => ?_) (fun _ => ?_)) | (show Sq _ _ _; refine Sq.mk ?_) | (show Ld1 _ _ _; first | (apply Ld1.blk; (focus ((repeat (first | assumption | (apply Blk.from; assumption))); done)); rfl) | (apply Ld1.rsF; (focus ((repeat (first | assumption | (apply RdS.from; assumption))); done)); assumption; rfl) | (apply Ld1.rs; (focus ((repeat (first | assumption | (apply RdS.from; assumption))); done)); assumption; rfl)) | (show Ld _ _ _ _; first | (apply Ld.blk; (focus ((repeat (first | assumption | (apply Blk.from; assumption))); done)); rfl) | (apply Ld.rs; (focus ((repeat (first | assumption | (apply RdS.from; assumption))); done)); assumption)) | (show Ix _ _ _ _ _; first | (apply Ix.rs; (focus ((repeat (first | assumption | (apply RdS.from; assumption))); done)); (first | with_reducible rfl | assumption); (first | assumption | omega)) | (apply Ix.arr; (focus ((repeat (first | assumption | (apply RdS.from; assumption))); done)); (first | assumption | (simp; done)); (first | with_reducible rfl | assumption); (first | assumption | omega))) | (show Al _ _ _ _; refine Al.mk (fun _ _ _ _ _ _ => ?_)) | (show St _ _ _ _; apply St.new; assumption; assumption; assumption; rfl; rfl; intro _ _ _ _)))
    refine St.elem (x := x) (i := i) hbp (fun y _ => insE y) (insE x) (by rw [hlp]; omega) rfl fun w6 u6 hb6 => ?_
    rw [lay_set hlp2 hx] at hb6
    have hM6 := hM1.tch (S := fun b => b = p) ((Tch.refl _ _).upd u6 (.inl rfl)) hS1 hS2
    have hC6 := RdS.upd2 hC u6 hCp
    repeat' (first | ((show Gd _ _ _; first | with_reducible refine Gd.t ?_ | with_reducible refine Gd.f ?_ | with_reducible refine Gd.dec (fun _ => ?_) (fun _ => ?_) | with_reducible refine Gd.beq (fun _ => ?_) (fun _ => ?_) | with_reducible refine Gd.bne (fun _ => ?_) (fun _ => ?_) | with_reducible refine Gd.not ?_ | refine Gd.t ?_ | refine Gd.f ?_ | with_reducible refine Gd.var (fun _ => ?_) (fun _ => ?_)) <;> first | (exfalso; omega) | skip) | (first | (show Gd _ _ _; first | with_reducible refine Gd.t ?_ | with_reducible refine Gd.f ?_ | with_reducible refine Gd.dec (fun _ => ?_) (fun _ => ?_) | with_reducible refine Gd.beq (fun _ => ?_) (fun _ => ?_) | with_reducible refine Gd.bne (fun _ => ?_) (fun _ => ?_) | with_reducible refine Gd.not ?_ | refine Gd.t ?_ | refine Gd.f ?_ | with_reducible refine Gd.var (fun _ => ?_) (fun _ => ?_)) | (show Sq _ _ _; refine Sq.mk ?_) | (show Ld1 _ _ _; first | (apply Ld1.blk; (focus ((repeat (first | assumption | (apply Blk.from; assumption))); done)); rfl) | (apply Ld1.rsF; (focus ((repeat (first | assumption | (apply RdS.from; assumption))); done)); assumption; rfl) | (apply Ld1.rs; (focus ((repeat (first | assumption | (apply RdS.from; assumption))); done)); assumption; rfl)) | (show Ld _ _ _ _; first | (apply Ld.blk; (focus ((repeat (first | assumption | (apply Blk.from; assumption))); done)); rfl) | (apply Ld.rs; (focus ((repeat (first | assumption | (apply RdS.from; assumption))); done)); assumption)) | (show Ix _ _ _ _ _; first | (apply Ix.rs; (focus ((repeat (first | assumption | (apply RdS.from; assumption))); done)); (first | with_reducible rfl | assumption); (first | assumption | omega)) | (apply Ix.arr; (focus ((repeat (first | assumption | (apply RdS.from; assumption))); done)); (first | assumption | (simp; done)); (first | with_reducible rfl | assumption); (first | assumption | omega))) | (show Al _ _ _ _; refine Al.mk (fun _ _ _ _ _ _ => ?_)) | (show St _ _ _ _; apply St.new; assumption; assumption; assumption; rfl; rfl; intro _ _ _ _)))
    exact ⟨i + 1, ⟨at_int (m := ((i + 1 : Nat) : Int)) rfl (w64 (by simp) (by omega) (by omega)), rfl, rfl, rfl, rfl, rfl, trivial⟩, rfl, ⟨by omega, hb6, hM6, hb.upd u6 hpf, hbt.upd u6 hpt, hbg.upd u6 hpg, hC6, e05.upd u6 hplo⟩, by omega⟩
  · have hi : i = f.code.length := by omega
    subst hi
    rw [List.take_length, List.drop_of_length_le (by rw [turned_len]; exact Nat.le_refl _), List.append_nil] at hbp
    repeat' (first | ((show Gd _ _ _; first | with_reducible refine Gd.t ?_ | with_reducible refine Gd.f ?_ | with_reducible refine Gd.dec (fun _ => ?_) (fun _ => ?_) | with_reducible refine Gd.beq (fun _ => ?_) (fun _ => ?_) | with_reducible refine Gd.bne (fun _ => ?_) (fun _ => ?_) | with_reducible refine Gd.not ?_ | refine Gd.t ?_ | refine Gd.f ?_ | with_reducible refine Gd.var (fun _ => ?_) (fun _ => ?_)) <;> first | (exfalso; omega) | skip) | (first | (show Gd _ _ _; first | with_reducible refine Gd.t ?_ | with_reducible refine Gd.f ?_ | with_reducible refine Gd.dec (fun _ => ?_) (fun _ => ?_) | with_reducible refine Gd.beq (fun _ => ?_) (fun _ => ?_) | with_reducible refine Gd.bne (fun _ => ?_) (fun _ => ?_) | with_reducible refine Gd.not ?_ | refine Gd.t ?_ | refine Gd.f ?_ | with_reducible refine Gd.var (fun _ => ?_) (fun _ => ?_)) | (show Sq _ _ _; refine Sq.mk ?_) | (show Ld1 _ _ _; first | (apply Ld1.blk; (focus ((repeat (first | assumption | (apply Blk.from; assumption))); done)); rfl) | (apply Ld1.rsF; (focus ((repeat (first | assumption | (apply RdS.from; assumption))); done)); assumption; rfl) | (apply Ld1.rs; (focus ((repeat (first | assumption | (apply RdS.from; assumption))); done)); assumption; rfl)) | (show Ld _ _ _ _; first | (apply Ld.blk; (focus ((repeat (first | assumption | (apply Blk.from; assumption))); done)); rfl) | (apply Ld.rs; (focus ((repeat (first | assumption | (apply RdS.from; assumption))); done)); assumption)) | (show Ix _ _ _ _ _; first | (apply Ix.rs; (focus ((repeat (first | assumption | (apply RdS.from; assumption))); done)); (first | with_reducible rfl | assumption); (first | assumption | omega)) | (apply Ix.arr; (focus ((repeat (first | assumption | (apply RdS.from; assumption))); done)); (first | assumption | (simp; done)); (first | with_reducible rfl | assumption); (first | assumption | omega))) | (show Al _ _ _ _; refine Al.mk (fun _ _ _ _ _ _ => ?_)) | (show St _ _ _ _; apply St.new; assumption; assumption; assumption; rfl; rfl; intro _ _ _ _)))
    (show Cl _ _ _ _ _ _; refine Cl.mk (pFlow_c f (some ⟨p, 0, none⟩) _ _ (rd_pre hbp) (RdS.from e05 hG)) ?_)
    rintro _ w6 ⟨A2, n2, m2, ps2, rfl, hM2, hn2, hm2, hr2, e6⟩
    have e06 := e05.trans e6
    have hb := hb.ext e6
    have hbt := hbt.ext e6
    have hC := RdS.from e6 hC
    have hA6 := RdS.from e06 hA
    have hN1 := (hM1.ext e6).nest (by omega) (by omega)
    have hN2 := hM2.nest (by omega) (by omega)
    have hl1 := matL_len n1 m1 (flwG (turnedF f))
    have hl2 := matL_len n2 m2 (flwG f)
    rw [hr1] at hN1 hl1
    rw [hr2] at hN2 hl2
    clear hM1 hM2 e6 e05 hbp hbg
    repeat' (first | ((show Gd _ _ _; first | with_reducible refine Gd.t ?_ | with_reducible refine Gd.f ?_ | with_reducible refine Gd.dec (fun _ => ?_) (fun _ => ?_) | with_reducible refine Gd.beq (fun _ => ?_) (fun _ => ?_) | with_reducible refine Gd.bne (fun _ => ?_) (fun _ => ?_) | with_reducible refine Gd.not ?_ | refine Gd.t ?_ | refine Gd.f ?_ | with_reducible refine Gd.var (fun _ => ?_) (fun _ => ?_)) <;> first | (exfalso; omega) | skip) | (first | (show Gd _ _ _; first | with_reducible refine Gd.t ?_ | with_reducible refine Gd.f ?_ | with_reducible refine Gd.dec (fun _ => ?_) (fun _ => ?_) | with_reducible refine Gd.beq (fun _ => ?_) (fun _ => ?_) | with_reducible refine Gd.bne (fun _ => ?_) (fun _ => ?_) | with_reducible refine Gd.not ?_ | refine Gd.t ?_ | refine Gd.f ?_ | with_reducible refine Gd.var (fun _ => ?_) (fun _ => ?_)) | (show Sq _ _ _; refine Sq.mk ?_) | (show Ld1 _ _ _; first | (apply Ld1.blk; (focus ((repeat (first | assumption | (apply Blk.from; assumption))); done)); rfl) | (apply Ld1.rsF; (focus ((repeat (first | assumption | (apply RdS.from; assumption))); done)); assumption; rfl) | (apply Ld1.rs; (focus ((repeat (first | assumption | (apply RdS.from; assumption))); done)); assumption; rfl)) | (show Ld _ _ _ _; first | (apply Ld.blk; (focus ((repeat (first | assumption | (apply Blk.from; assumption))); done)); rfl) | (apply Ld.rs; (focus ((repeat (first | assumption | (apply RdS.from; assumption))); done)); assumption)) | (show Ix _ _ _ _ _; first | (apply Ix.rs; (focus ((repeat (first | assumption | (apply RdS.from; assumption))); done)); (first | with_reducible rfl | assumption); (first | assumption | omega)) | (apply Ix.arr; (focus ((repeat (first | assumption | (apply RdS.from; assumption))); done)); (first | assumption | (simp; done)); (first | with_reducible rfl | assumption); (first | assumption | omega))) | (show Al _ _ _ _; refine Al.mk (fun _ _ _ _ _ _ => ?_)) | (show St _ _ _ _; apply St.new; assumption; assumption; assumption; rfl; rfl; intro _ _ _ _)))
    (show Cl _ _ _ _ _ _; refine Cl.mk (rFlow_c (turnedF f) C d _ hC) ?_)
    rintro _ w7 ⟨A3, n3, m3, ps3, rfl, hM3, hn3, hm3, hr3, e7⟩
    have hN3 := hM3.nest (by omega) (by omega)
    have hl3 := matL_len n3 m3 (flwG (turnedF f))
    rw [hr3] at hN3 hl3
    repeat' (first | ((show Gd _ _ _; first | with_reducible refine Gd.t ?_ | with_reducible refine Gd.f ?_ | with_reducible refine Gd.dec (fun _ => ?_) (fun _ => ?_) | with_reducible refine Gd.beq (fun _ => ?_) (fun _ => ?_) | with_reducible refine Gd.bne (fun _ => ?_) (fun _ => ?_) | with_reducible refine Gd.not ?_ | refine Gd.t ?_ | refine Gd.f ?_ | with_reducible refine Gd.var (fun _ => ?_) (fun _ => ?_)) <;> first | (exfalso; omega) | skip) | (first | (show Gd _ _ _; first | with_reducible refine Gd.t ?_ | with_reducible refine Gd.f ?_ | with_reducible refine Gd.dec (fun _ => ?_) (fun _ => ?_) | with_reducible refine Gd.beq (fun _ => ?_) (fun _ => ?_) | with_reducible refine Gd.bne (fun _ => ?_) (fun _ => ?_) | with_reducible refine Gd.not ?_ | refine Gd.t ?_ | refine Gd.f ?_ | with_reducible refine Gd.var (fun _ => ?_) (fun _ => ?_)) | (show Sq _ _ _; refine Sq.mk ?_) | (show Ld1 _ _ _; first | (apply Ld1.blk; (focus ((repeat (first | assumption | (apply Blk.from; assumption))); done)); rfl) | (apply Ld1.rsF; (focus ((repeat (first | assumption | (apply RdS.from; assumption))); done)); assumption; rfl) | (apply Ld1.rs; (focus ((repeat (first | assumption | (apply RdS.from; assumption))); done)); assumption; rfl)) | (show Ld _ _ _ _; first | (apply Ld.blk; (focus ((repeat (first | assumption | (apply Blk.from; assumption))); done)); rfl) | (apply Ld.rs; (focus ((repeat (first | assumption | (apply RdS.from; assumption))); done)); assumption)) | (show Ix _ _ _ _ _; first | (apply Ix.rs; (focus ((repeat (first | assumption | (apply RdS.from; assumption))); done)); (first | with_reducible rfl | assumption); (first | assumption | omega)) | (apply Ix.arr; (focus ((repeat (first | assumption | (apply RdS.from; assumption))); done)); (first | assumption | (simp; done)); (first | with_reducible rfl | assumption); (first | assumption | omega))) | (show Al _ _ _ _; refine Al.mk (fun _ _ _ _ _ _ => ?_)) | (show St _ _ _ _; apply St.new; assumption; assumption; assumption; rfl; rfl; intro _ _ _ _)))
    subst hl1 hl2 hl3
    (show Cl _ _ _ _ _ _; refine Cl.mk (sameRows_c A1 A3 _ _ _ _ _ (hN1.ext e7) hN3 (by omega)) ?_)
    rintro _ w8 ⟨rfl, e8⟩
    rw [decide_eq_true rfl]
    repeat' (first | ((show Gd _ _ _; first | with_reducible refine Gd.t ?_ | with_reducible refine Gd.f ?_ | with_reducible refine Gd.dec (fun _ => ?_) (fun _ => ?_) | with_reducible refine Gd.beq (fun _ => ?_) (fun _ => ?_) | with_reducible refine Gd.bne (fun _ => ?_) (fun _ => ?_) | with_reducible refine Gd.not ?_ | refine Gd.t ?_ | refine Gd.f ?_ | with_reducible refine Gd.var (fun _ => ?_) (fun _ => ?_)) <;> first | (exfalso; omega) | skip) | (first | (show Gd _ _ _; first | with_reducible refine Gd.t ?_ | with_reducible refine Gd.f ?_ | with_reducible refine Gd.dec (fun _ => ?_) (fun _ => ?_) | with_reducible refine Gd.beq (fun _ => ?_) (fun _ => ?_) | with_reducible refine Gd.bne (fun _ => ?_) (fun _ => ?_) | with_reducible refine Gd.not ?_ | refine Gd.t ?_ | refine Gd.f ?_ | with_reducible refine Gd.var (fun _ => ?_) (fun _ => ?_)) | (show Sq _ _ _; refine Sq.mk ?_) | (show Ld1 _ _ _; first | (apply Ld1.blk; (focus ((repeat (first | assumption | (apply Blk.from; assumption))); done)); rfl) | (apply Ld1.rsF; (focus ((repeat (first | assumption | (apply RdS.from; assumption))); done)); assumption; rfl) | (apply Ld1.rs; (focus ((repeat (first | assumption | (apply RdS.from; assumption))); done)); assumption; rfl)) | (show Ld _ _ _ _; first | (apply Ld.blk; (focus ((repeat (first | assumption | (apply Blk.from; assumption))); done)); rfl) | (apply Ld.rs; (focus ((repeat (first | assumption | (apply RdS.from; assumption))); done)); assumption)) | (show Ix _ _ _ _ _; first | (apply Ix.rs; (focus ((repeat (first | assumption | (apply RdS.from; assumption))); done)); (first | with_reducible rfl | assumption); (first | assumption | omega)) | (apply Ix.arr; (focus ((repeat (first | assumption | (apply RdS.from; assumption))); done)); (first | assumption | (simp; done)); (first | with_reducible rfl | assumption); (first | assumption | omega))) | (show Al _ _ _ _; refine Al.mk (fun _ _ _ _ _ _ => ?_)) | (show St _ _ _ _; apply St.new; assumption; assumption; assumption; rfl; rfl; intro _ _ _ _)))
    have e08 : Ext w w8 := (e06.trans e7).trans e8
    (show Cl _ _ _ _ _ _; refine Cl.mk (rFlow_c f A c _ (RdS.from e08 hA)) ?_)
    rintro _ w9 ⟨A4, n4, m4, ps4, rfl, hM4, hn4, hm4, hr4, e9⟩
    have hN4 := hM4.nest (by omega) (by omega)
    have hl4 := matL_len n4 m4 (flwG f)
    rw [hr4] at hN4 hl4
    repeat' (first | ((show Gd _ _ _; first | with_reducible refine Gd.t ?_ | with_reducible refine Gd.f ?_ | with_reducible refine Gd.dec (fun _ => ?_) (fun _ => ?_) | with_reducible refine Gd.beq (fun _ => ?_) (fun _ => ?_) | with_reducible refine Gd.bne (fun _ => ?_) (fun _ => ?_) | with_reducible refine Gd.not ?_ | refine Gd.t ?_ | refine Gd.f ?_ | with_reducible refine Gd.var (fun _ => ?_) (fun _ => ?_)) <;> first | (exfalso; omega) | skip) | (first | (show Gd _ _ _; first | with_reducible refine Gd.t ?_ | with_reducible refine Gd.f ?_ | with_reducible refine Gd.dec (fun _ => ?_) (fun _ => ?_) | with_reducible refine Gd.beq (fun _ => ?_) (fun _ => ?_) | with_reducible refine Gd.bne (fun _ => ?_) (fun _ => ?_) | with_reducible refine Gd.not ?_ | refine Gd.t ?_ | refine Gd.f ?_ | with_reducible refine Gd.var (fun _ => ?_) (fun _ => ?_)) | (show Sq _ _ _; refine Sq.mk ?_) | (show Ld1 _ _ _; first | (apply Ld1.blk; (focus ((repeat (first | assumption | (apply Blk.from; assumption))); done)); rfl) | (apply Ld1.rsF; (focus ((repeat (first | assumption | (apply RdS.from; assumption))); done)); assumption; rfl) | (apply Ld1.rs; (focus ((repeat (first | assumption | (apply RdS.from; assumption))); done)); assumption; rfl)) | (show Ld _ _ _ _; first | (apply Ld.blk; (focus ((repeat (first | assumption | (apply Blk.from; assumption))); done)); rfl) | (apply Ld.rs; (focus ((repeat (first | assumption | (apply RdS.from; assumption))); done)); assumption)) | (show Ix _ _ _ _ _; first | (apply Ix.rs; (focus ((repeat (first | assumption | (apply RdS.from; assumption))); done)); (first | with_reducible rfl | assumption); (first | assumption | omega)) | (apply Ix.arr; (focus ((repeat (first | assumption | (apply RdS.from; assumption))); done)); (first | assumption | (simp; done)); (first | with_reducible rfl | assumption); (first | assumption | omega))) | (show Al _ _ _ _; refine Al.mk (fun _ _ _ _ _ _ => ?_)) | (show St _ _ _ _; apply St.new; assumption; assumption; assumption; rfl; rfl; intro _ _ _ _)))
    subst hl4
    (show Cl _ _ _ _ _ _; refine Cl.mk (sameRows_c A2 A4 _ _ _ _ _ (hN2.ext ((e7.trans e8).trans e9)) hN4 (by omega)) ?_)
    rintro _ w10 ⟨rfl, e10⟩
    rw [decide_eq_true rfl]
    repeat' (first | ((show Gd _ _ _; first | with_reducible refine Gd.t ?_ | with_reducible refine Gd.f ?_ | with_reducible refine Gd.dec (fun _ => ?_) (fun _ => ?_) | with_reducible refine Gd.beq (fun _ => ?_) (fun _ => ?_) | with_reducible refine Gd.bne (fun _ => ?_) (fun _ => ?_) | with_reducible refine Gd.not ?_ | refine Gd.t ?_ | refine Gd.f ?_ | with_reducible refine Gd.var (fun _ => ?_) (fun _ => ?_)) <;> first | (exfalso; omega) | skip) | (first | (show Gd _ _ _; first | with_reducible refine Gd.t ?_ | with_reducible refine Gd.f ?_ | with_reducible refine Gd.dec (fun _ => ?_) (fun _ => ?_) | with_reducible refine Gd.beq (fun _ => ?_) (fun _ => ?_) | with_reducible refine Gd.bne (fun _ => ?_) (fun _ => ?_) | with_reducible refine Gd.not ?_ | refine Gd.t ?_ | refine Gd.f ?_ | with_reducible refine Gd.var (fun _ => ?_) (fun _ => ?_)) | (show Sq _ _ _; refine Sq.mk ?_) | (show Ld1 _ _ _; first | (apply Ld1.blk; (focus ((repeat (first | assumption | (apply Blk.from; assumption))); done)); rfl) | (apply Ld1.rsF; (focus ((repeat (first | assumption | (apply RdS.from; assumption))); done)); assumption; rfl) | (apply Ld1.rs; (focus ((repeat (first | assumption | (apply RdS.from; assumption))); done)); assumption; rfl)) | (show Ld _ _ _ _; first | (apply Ld.blk; (focus ((repeat (first | assumption | (apply Blk.from; assumption))); done)); rfl) | (apply Ld.rs; (focus ((repeat (first | assumption | (apply RdS.from; assumption))); done)); assumption)) | (show Ix _ _ _ _ _; first | (apply Ix.rs; (focus ((repeat (first | assumption | (apply RdS.from; assumption))); done)); (first | with_reducible rfl | assumption); (first | assumption | omega)) | (apply Ix.arr; (focus ((repeat (first | assumption | (apply RdS.from; assumption))); done)); (first | assumption | (simp; done)); (first | with_reducible rfl | assumption); (first | assumption | omega))) | (show Al _ _ _ _; refine Al.mk (fun _ _ _ _ _ _ => ?_)) | (show St _ _ _ _; apply St.new; assumption; assumption; assumption; rfl; rfl; intro _ _ _ _)))
    exact ⟨rfl, (e08.trans e9).trans e10⟩
end Go.Proofs.YtbbadmlekagloaaDoor
namespace Go.Proofs.YtbbadmlekagloaaDoor
open Go Go.Sh
attribute [local irreducible] Blk Ext RdS
/-- a path from the start to a point, backward -/
structure Back (f : Fn) (slot : Int) (bk : List Pt) (goal : Pt) : Prop where
  head : bk[0]? = some goal
  step : ∀ (i : Nat) (x y : Pt), bk[i]? = some y → bk[i + 1]? = some x → y ∈ succs f slot x
theorem Back.one (f : Fn) (slot : Int) (goal : Pt) : Back f slot [goal] goal := ⟨rfl, fun i x y _ h => by simp at h⟩
theorem Back.snoc {f : Fn} {slot : Int} {bk : List Pt} {goal x : Pt} (h : Back f slot bk goal) (hl : ∀ y, bk.getLast? = some y → y ∈ succs f slot x) : Back f slot (bk ++ [x]) goal := by
  have h0 : 0 < bk.length := (List.getElem?_eq_some_iff.1 h.head).1
  refine ⟨by rw [List.getElem?_append_left h0]; exact h.head, fun i x' y hy hx => ?_⟩
  rcases Nat.lt_or_ge (i + 1) bk.length with hi | hi
  · rw [List.getElem?_append_left (by omega)] at hy
    rw [List.getElem?_append_left hi] at hx
    exact h.step i x' y hy hx
  · have : i + 1 = bk.length := by have := (List.getElem?_eq_some_iff.1 hx).1; simp at this; omega
    rw [this] at hx
    simp at hx; subst hx
    rw [List.getElem?_append_left (by omega)] at hy
    refine hl y ?_
    rw [List.getLast?_eq_getElem?, show bk.length - 1 = i by omega]
    exact hy
theorem fnd_at {κ ν : Type} [DecidableEq κ] {m : List (κ × ν)} {j : Nat} {k : κ} {v : ν} (hn : (m.map (·.1)).Nodup) (h : m[j]? = some (k, v)) : fnd m k = some v := by
  unfold fnd
  induction m generalizing j with
  | nil => simp at h
  | cons x r ih =>
    obtain ⟨a, b⟩ := x
    simp only [List.map_cons, List.nodup_cons] at hn
    cases j with
    | zero => simp at h; obtain ⟨rfl, rfl⟩ := h; simp
    | succ j =>
      simp at h
      have hne : a ≠ k := fun e => hn.1 (by rw [e]; exact List.mem_map.2 ⟨(k, v), List.mem_of_getElem? h, rfl⟩)
      rw [List.find?_cons_of_neg (by simpa using hne)]
      exact ih hn.2 h
/-- what Trail has to answer: places of a path to that point -/
def GoodPath (f : Fn) (slot : Int) (goal : Pt) (l : List Int) : Prop := ∃ pts : List Pt, l = pl pts ∧ pts[0]? = some (0, 1) ∧ pts.getLast? = some goal ∧ (∀ (i : Nat) (x y : Pt), pts[i]? = some x → pts[i + 1]? = some y → y ∈ succs f slot x) ∧
  pts.length ≤ 3 * f.code.length ∧ ∀ x ∈ pts, x.1 < f.code.length ∧ okS x.2
theorem Back.path {f : Fn} {slot : Int} {bk : List Pt} {goal : Pt} (h : Back f slot bk goal) (hl : bk.getLast? = some (0, 1)) (hlen : bk.length ≤ 3 * f.code.length) (hin : ∀ x ∈ bk, x.1 < f.code.length ∧ okS x.2) : GoodPath f slot goal (pl bk.reverse) := by
  have h0 : 0 < bk.length := (List.getElem?_eq_some_iff.1 h.head).1
  refine ⟨bk.reverse, rfl, ?_, ?_, fun i x y hx hy => ?_, by simpa using hlen, fun x hx => hin x (by simpa using hx)⟩
  · rw [← List.head?_eq_getElem?, List.head?_reverse]; exact hl
  · rw [List.getLast?_reverse, List.head?_eq_getElem?]; exact h.head
  · have hi : i + 1 < bk.length := by simpa using (List.getElem?_eq_some_iff.1 hy).1
    rw [List.getElem?_reverse (by omega)] at hx
    rw [List.getElem?_reverse hi] at hy
    refine h.step (bk.length - 1 - (i + 1)) x y hy ?_
    rw [show bk.length - 1 - (i + 1) + 1 = bk.length - 1 - i by omega]
    exact hx
theorem trail1_c (x g : Pt) (p : Nat) (w : World) (hb : Blk w p 82 (encP g)) : Cl Tryd.prog 55 (cat [kvP x] [.pointer (some ⟨p, 0, none⟩)]).toArray w (fun v w' => v = .bool (decide (x = g)) ∧ Ext w w') (fun _ _ => False) := by
  refine calls_ex (args := [kvP x, .pointer (some ⟨p, 0, none⟩)]) T.ok Tryd.func55 rfl rfl rfl rfl ?_
  repeat' (first | (show Gd _ _ _; first | with_reducible refine Gd.t ?_ | with_reducible refine Gd.f ?_ | with_reducible refine Gd.dec (fun _ => ?_) (fun _ => ?_) | with_reducible refine Gd.beq (fun _ => ?_) (fun _ => ?_) | with_reducible refine Gd.bne (fun _ => ?_) (fun _ => ?_) | with_reducible refine Gd.not ?_ | refine Gd.t ?_ | refine Gd.f ?_ | with_reducible refine Gd.var (fun _ => ?_) (fun _ => ?_)) | (show Sq _ _ _; refine Sq.mk ?_) | (show Ld1 _ _ _; first | (apply Ld1.blk; (focus ((repeat (first | assumption | (apply Blk.from; assumption))); done)); rfl) | (apply Ld1.rsF; (focus ((repeat (first | assumption | (apply RdS.from; assumption))); done)); assumption; rfl) | (apply Ld1.rs; (focus ((repeat (first | assumption | (apply RdS.from; assumption))); done)); assumption; rfl)) | (show Ld _ _ _ _; first | (apply Ld.blk; (focus ((repeat (first | assumption | (apply Blk.from; assumption))); done)); rfl) | (apply Ld.rs; (focus ((repeat (first | assumption | (apply RdS.from; assumption))); done)); assumption)) | (show Ix _ _ _ _ _; first | (apply Ix.rs; (focus ((repeat (first | assumption | (apply RdS.from; assumption))); done)); (first | with_reducible rfl | assumption); (first | assumption | omega)) | (apply Ix.arr; (focus ((repeat (first | assumption | (apply RdS.from; assumption))); done)); (first | assumption | (simp; done)); (first | with_reducible rfl | assumption); (first | assumption | omega))) | (show Al _ _ _ _; refine Al.mk (fun _ _ _ _ _ _ => ?_)) | (show St _ _ _ _; apply St.new; assumption; assumption; assumption; rfl; rfl; intro _ _ _ _))
  refine ⟨b_eq ?_, by (repeat (first | exact Ext.refl _ | assumption | (apply Ext.from; assumption)))⟩
  obtain ⟨a, b⟩ := x
  obtain ⟨c, d⟩ := g
  rw [Bool.eq_iff_iff]
  simp
  omega
end Go.Proofs.YtbbadmlekagloaaDoor
namespace Go.Proofs.YtbbadmlekagloaaDoor
open Go Go.Sh
attribute [local irreducible] Blk Ext RdS
def Bad (f : Fn) (at_ slot state : Int) : Prop := soundB f = false ∨ (at_ < 0 ∨ (f.code.length : Int) ≤ at_ ∨ slot < 0 ∨ f.slots ≤ slot ∨ (state ≠ 1 ∧ state ≠ 2 ∧ state ≠ 4))
structure Verdict (f : Fn) (at_ slot state : Int) (l : List Int) (e : Int) : Prop where
  bad : Bad f at_ slot state → l = [] ∧ e = 3
  no : ¬ Bad f at_ slot state → ¬ Reach f slot (at_.toNat, state) → l = [] ∧ e = 59
  yes : ¬ Bad f at_ slot state → Reach f slot (at_.toNat, state) → e = 0 ∧ GoodPath f slot (at_.toNat, state) l
def IsTrail (f : Fn) (at_ slot state : Int) (w : World) (v : Value) (w' : World) : Prop := ∃ A l c e, v = .tuple #[.slice A l.length c, .int .i64 e] ∧ RdS ints 1 w' A l ∧ Ext w w' ∧ Verdict f at_ slot state l e ∧ Fresh w A
theorem isBad {f : Fn} {at_ slot state : Int} {w w' : World} (h : Bad f at_ slot state) (e : Ext w w') : IsTrail f at_ slot state w (.tuple #[.slice none 0 0, .int .i64 3]) w' :=
  ⟨none, [], 0, 3, rfl, RdS.nil, e, ⟨fun _ => ⟨rfl, rfl⟩, fun hn => absurd h hn, fun hn => absurd h hn⟩, fresh_none⟩
/-- where the way back stands: at the j-th point of the search, or before the first -/
def Cur (f : Fn) (slot : Int) (goal : Pt) (m : List (Pt × Edge)) (bk : List Pt) : Option Nat → Edge → Prop
  | some j, e => ∃ y p, m[j]? = some (y, p) ∧ e = ((y.1 : Int), y.2) ∧ ((bk = [] ∧ y = goal) ∨ (Back f slot bk goal ∧ ∀ z, bk.getLast? = some z → z ∈ succs f slot y)) ∧ bk.length + j + 1 ≤ m.length
  | none, e => e = (-1, 0) ∧ Back f slot bk goal ∧ bk.getLast? = some (0, 1) ∧ bk.length ≤ m.length
def curN : Option Nat → Nat
  | some j => j + 1
  | none => 0
theorem Cur.next {f : Fn} {slot : Int} {goal : Pt} {m : List (Pt × Edge)} {bk : List Pt} {j : Nat} {y : Pt} {p : Edge} (hT : Tree f slot m) (hm : m[j]? = some (y, p)) (h : (bk = [] ∧ y = goal) ∨ (Back f slot bk goal ∧ ∀ z, bk.getLast? = some z → z ∈ succs f slot y)) (hl : bk.length + j + 1 ≤ m.length) :
    ∃ j', Cur f slot goal m (bk ++ [y]) j' p ∧ curN j' < j + 1 := by
  have hB : Back f slot (bk ++ [y]) goal := by
    rcases h with ⟨rfl, rfl⟩ | ⟨h1, h2⟩
    · exact Back.one f slot y
    · exact h1.snoc h2
  rcases Nat.eq_zero_or_pos j with rfl | hj
  · rw [hT.head] at hm
    simp at hm
    obtain ⟨rfl, rfl⟩ := hm
    exact ⟨none, ⟨rfl, hB, by simp, by simp; omega⟩, by simp [curN]⟩
  · obtain ⟨i, x, e, h1, h2, rfl, h4⟩ := hT.par j y p hj hm
    exact ⟨some i, ⟨x, e, h2, rfl, .inr ⟨hB, fun z hz => by simp at hz; subst hz; exact h4⟩, by simp; omega⟩, by simp [curN]; omega⟩
theorem Trail_bad (f : Fn) (A : Option Addr) (c : Nat) (at_ slot state : Int) (w : World) (hA : RdC w A f.code) (hG : RdG w) (hbad : Bad f at_ slot state) :
    Cl Tryd.prog 25 #[f.v A c, .int .i64 at_, .int .i64 slot, .int .i64 state] w (IsTrail f at_ slot state w) (fun _ _ => False) := by
  refine calls_ex (args := [f.v A c, .int .i64 at_, .int .i64 slot, .int .i64 state]) T.ok Tryd.func25 rfl rfl rfl rfl ?_
  refine Sq.mk ?_
  refine Al.mk fun pf w1 hpf hb e1 hs1 => ?_
  have hgood : soundB f = true → ¬ at_ < 0 → ¬ at_ ≥ f.code.length → ¬ slot < 0 → ¬ slot ≥ f.slots → (state ≠ 1 ∧ state ≠ 2 ∧ state ≠ 4) := fun h1 h2 h3 h4 h5 => by
    rcases hbad with h | h
    · rw [h1] at h; exact absurd h (by simp)
    · omega
  repeat' (first | (exfalso; have h0 := hgood (by assumption) (by assumption) (by assumption) (by assumption) (by assumption); omega) | ((show Gd _ _ _; first | with_reducible refine Gd.t ?_ | with_reducible refine Gd.f ?_ | with_reducible refine Gd.dec (fun _ => ?_) (fun _ => ?_) | with_reducible refine Gd.beq (fun _ => ?_) (fun _ => ?_) | with_reducible refine Gd.bne (fun _ => ?_) (fun _ => ?_) | with_reducible refine Gd.not ?_ | refine Gd.t ?_ | refine Gd.f ?_ | with_reducible refine Gd.var (fun _ => ?_) (fun _ => ?_)) <;> first | (exfalso; omega) | skip) | (first | (show Gd _ _ _; first | with_reducible refine Gd.t ?_ | with_reducible refine Gd.f ?_ | with_reducible refine Gd.dec (fun _ => ?_) (fun _ => ?_) | with_reducible refine Gd.beq (fun _ => ?_) (fun _ => ?_) | with_reducible refine Gd.bne (fun _ => ?_) (fun _ => ?_) | with_reducible refine Gd.not ?_ | refine Gd.t ?_ | refine Gd.f ?_ | with_reducible refine Gd.var (fun _ => ?_) (fun _ => ?_)) | (show Sq _ _ _; refine Sq.mk ?_) | (show Ld1 _ _ _; first | (apply Ld1.blk; (focus ((repeat (first | assumption | (apply Blk.from; assumption))); done)); rfl) | (apply Ld1.rsF; (focus ((repeat (first | assumption | (apply RdS.from; assumption))); done)); assumption; rfl) | (apply Ld1.rs; (focus ((repeat (first | assumption | (apply RdS.from; assumption))); done)); assumption; rfl)) | (show Ld _ _ _ _; first | (apply Ld.blk; (focus ((repeat (first | assumption | (apply Blk.from; assumption))); done)); rfl) | (apply Ld.rs; (focus ((repeat (first | assumption | (apply RdS.from; assumption))); done)); assumption)) | (show Ix _ _ _ _ _; first | (apply Ix.rs; (focus ((repeat (first | assumption | (apply RdS.from; assumption))); done)); (first | with_reducible rfl | assumption); (first | assumption | omega)) | (apply Ix.arr; (focus ((repeat (first | assumption | (apply RdS.from; assumption))); done)); (first | assumption | (simp; done)); (first | with_reducible rfl | assumption); (first | assumption | omega))) | (show Al _ _ _ _; refine Al.mk (fun _ _ _ _ _ _ => ?_)) | (show St _ _ _ _; apply St.new; assumption; assumption; assumption; rfl; rfl; intro _ _ _ _)) | (show Cl _ _ _ _ _ _; refine Cl.mk (sound_c _ _ _ _ (by (focus ((repeat (first | assumption | (apply RdS.from; assumption))); done))) (by (focus ((repeat (first | assumption | (apply RdS.from; assumption))); done)))) ?_; rintro _ _ ⟨rfl, _⟩))
  all_goals exact isBad hbad (by (repeat (first | exact Ext.refl _ | assumption | (apply Ext.from; assumption))))
theorem Trail_good (f : Fn) (A : Option Addr) (c i : Nat) (slot state : Int) (w : World) (hA : RdC w A f.code) (hG : RdG w) (hS : soundB f = true) (hi : i < f.code.length) (hs0 : 0 ≤ slot) (hs1 : slot < f.slots) (hst : okS state) :
    Cl Tryd.prog 25 #[f.v A c, .int .i64 (i : Int), .int .i64 slot, .int .i64 state] w (IsTrail f (i : Int) slot state w) (fun _ _ => False) := by
  have hsh : shapedB f = true := by simp only [soundB, Bool.and_eq_true] at hS; exact hS.1.1
  obtain ⟨hl1, hl2⟩ := shaped_len hsh
  have hnb : ¬ Bad f (i : Int) slot state := by
    unfold Bad okS at *
    rw [hS]; simp; omega
  have hgo : ∀ b : Bool, b = soundB f → b = false → False := fun b h1 h2 => by rw [h1, hS] at h2; simp at h2
  refine calls_ex (args := [f.v A c, .int .i64 (i : Int), .int .i64 slot, .int .i64 state]) T.ok Tryd.func25 rfl rfl rfl rfl ?_
  refine Sq.mk ?_
  refine Al.mk fun pf w1 hpf hb e1 hs1 => ?_
  unfold okS at hst
  repeat' (first | (exfalso; exact hgo _ rfl (by assumption)) | ((show Gd _ _ _; first | with_reducible refine Gd.t ?_ | with_reducible refine Gd.f ?_ | with_reducible refine Gd.dec (fun _ => ?_) (fun _ => ?_) | with_reducible refine Gd.beq (fun _ => ?_) (fun _ => ?_) | with_reducible refine Gd.bne (fun _ => ?_) (fun _ => ?_) | with_reducible refine Gd.not ?_ | refine Gd.t ?_ | refine Gd.f ?_ | with_reducible refine Gd.var (fun _ => ?_) (fun _ => ?_)) <;> first | (exfalso; omega) | skip) | (first | (show Gd _ _ _; first | with_reducible refine Gd.t ?_ | with_reducible refine Gd.f ?_ | with_reducible refine Gd.dec (fun _ => ?_) (fun _ => ?_) | with_reducible refine Gd.beq (fun _ => ?_) (fun _ => ?_) | with_reducible refine Gd.bne (fun _ => ?_) (fun _ => ?_) | with_reducible refine Gd.not ?_ | refine Gd.t ?_ | refine Gd.f ?_ | with_reducible refine Gd.var (fun _ => ?_) (fun _ => ?_)) | (show Sq _ _ _; refine Sq.mk ?_) | (show Ld1 _ _ _; first | (apply Ld1.blk; (focus ((repeat (first | assumption | (apply Blk.from; assumption))); done)); rfl) | (apply Ld1.rsF; (focus ((repeat (first | assumption | (apply RdS.from; assumption))); done)); assumption; rfl) | (apply Ld1.rs; (focus ((repeat (first | assumption | (apply RdS.from; assumption))); done)); assumption; rfl)) | (show Ld _ _ _ _; first | (apply Ld.blk; (focus ((repeat (first | assumption | (apply Blk.from; assumption))); done)); rfl) | (apply Ld.rs; (focus ((repeat (first | assumption | (apply RdS.from; assumption))); done)); assumption)) | (show Ix _ _ _ _ _; first | (apply Ix.rs; (focus ((repeat (first | assumption | (apply RdS.from; assumption))); done)); (first | with_reducible rfl | assumption); (first | assumption | omega)) | (apply Ix.arr; (focus ((repeat (first | assumption | (apply RdS.from; assumption))); done)); (first | assumption | (simp; done)); (first | with_reducible rfl | assumption); (first | assumption | omega))) | (show Al _ _ _ _; refine Al.mk (fun _ _ _ _ _ _ => ?_)) | (show St _ _ _ _; apply St.new; assumption; assumption; assumption; rfl; rfl; intro _ _ _ _)) | (show Cl _ _ _ _ _ _; refine Cl.mk (sound_c _ _ _ _ (by (focus ((repeat (first | assumption | (apply RdS.from; assumption))); done))) (by (focus ((repeat (first | assumption | (apply RdS.from; assumption))); done)))) ?_; rintro _ _ ⟨rfl, _⟩))
  all_goals
    rename_i pg wg0 hpg hbg0 eg0 hsg0 wg eg hbg hsg
    replace hbg : Blk wg pg 82 (encP ((i, state) : Pt)) := hbg
    have e1g : Ext w1 wg := by (repeat (first | exact Ext.refl _ | assumption | (apply Ext.from; assumption)))
    have hbw := hb.ext e1g
    have e0g := e1.trans e1g
    clear hbg0 eg0 hsg0 hsg eg
    repeat' (first | ((show Gd _ _ _; first | with_reducible refine Gd.t ?_ | with_reducible refine Gd.f ?_ | with_reducible refine Gd.dec (fun _ => ?_) (fun _ => ?_) | with_reducible refine Gd.beq (fun _ => ?_) (fun _ => ?_) | with_reducible refine Gd.bne (fun _ => ?_) (fun _ => ?_) | with_reducible refine Gd.not ?_ | refine Gd.t ?_ | refine Gd.f ?_ | with_reducible refine Gd.var (fun _ => ?_) (fun _ => ?_)) <;> first | (exfalso; omega) | skip) | (first | (show Gd _ _ _; first | with_reducible refine Gd.t ?_ | with_reducible refine Gd.f ?_ | with_reducible refine Gd.dec (fun _ => ?_) (fun _ => ?_) | with_reducible refine Gd.beq (fun _ => ?_) (fun _ => ?_) | with_reducible refine Gd.bne (fun _ => ?_) (fun _ => ?_) | with_reducible refine Gd.not ?_ | refine Gd.t ?_ | refine Gd.f ?_ | with_reducible refine Gd.var (fun _ => ?_) (fun _ => ?_)) | (show Sq _ _ _; refine Sq.mk ?_) | (show Ld1 _ _ _; first | (apply Ld1.blk; (focus ((repeat (first | assumption | (apply Blk.from; assumption))); done)); rfl) | (apply Ld1.rsF; (focus ((repeat (first | assumption | (apply RdS.from; assumption))); done)); assumption; rfl) | (apply Ld1.rs; (focus ((repeat (first | assumption | (apply RdS.from; assumption))); done)); assumption; rfl)) | (show Ld _ _ _ _; first | (apply Ld.blk; (focus ((repeat (first | assumption | (apply Blk.from; assumption))); done)); rfl) | (apply Ld.rs; (focus ((repeat (first | assumption | (apply RdS.from; assumption))); done)); assumption)) | (show Ix _ _ _ _ _; first | (apply Ix.rs; (focus ((repeat (first | assumption | (apply RdS.from; assumption))); done)); (first | with_reducible rfl | assumption); (first | assumption | omega)) | (apply Ix.arr; (focus ((repeat (first | assumption | (apply RdS.from; assumption))); done)); (first | assumption | (simp; done)); (first | with_reducible rfl | assumption); (first | assumption | omega))) | (show Al _ _ _ _; refine Al.mk (fun _ _ _ _ _ _ => ?_)) | (show St _ _ _ _; apply St.new; assumption; assumption; assumption; rfl; rfl; intro _ _ _ _)))
    (show Cl _ _ _ _ _ _; refine Cl.mk (search_c f A c slot 55 [.pointer (some ⟨pg, 0, none⟩)] (fun x => decide (x = (i, state))) _ (RdS.from e0g hA) (RdS.from e0g hG) hS rfl (fun x w' e => trail1_c x (i, state) pg w' (hbg.ext e))) ?_)
    rintro _ w2 ⟨pm, m, k, rfl, hpm, hm, hq, hTr, hend, hno, e2⟩
    have e02 := e0g.trans e2
    have hbg2 := hbg.ext e2
    have hreach : ((i, state) : Pt) ∈ m.map (·.1) ↔ Reach f slot (i, state) := by
      refine ⟨hq.reach _, fun hr => ?_⟩
      rcases hend with h | ⟨x, hx, h⟩
      · have hq' : Srch f slot (m.map (·.1)) (m.map (·.1)).length := by rw [List.length_map, ← h]; exact hq
        exact (hq'.all _).2 hr
      · have hx2 : x = (i, state) := by simpa using h
        rw [hx2] at hx
        exact List.mem_of_getElem? hx
    clear e0g e2 hbg
    repeat' (first | ((show Gd _ _ _; first | with_reducible refine Gd.t ?_ | with_reducible refine Gd.f ?_ | with_reducible refine Gd.dec (fun _ => ?_) (fun _ => ?_) | with_reducible refine Gd.beq (fun _ => ?_) (fun _ => ?_) | with_reducible refine Gd.bne (fun _ => ?_) (fun _ => ?_) | with_reducible refine Gd.not ?_ | refine Gd.t ?_ | refine Gd.f ?_ | with_reducible refine Gd.var (fun _ => ?_) (fun _ => ?_)) <;> first | (exfalso; omega) | skip) | (first | (show Gd _ _ _; first | with_reducible refine Gd.t ?_ | with_reducible refine Gd.f ?_ | with_reducible refine Gd.dec (fun _ => ?_) (fun _ => ?_) | with_reducible refine Gd.beq (fun _ => ?_) (fun _ => ?_) | with_reducible refine Gd.bne (fun _ => ?_) (fun _ => ?_) | with_reducible refine Gd.not ?_ | refine Gd.t ?_ | refine Gd.f ?_ | with_reducible refine Gd.var (fun _ => ?_) (fun _ => ?_)) | (show Sq _ _ _; refine Sq.mk ?_) | (show Ld1 _ _ _; first | (apply Ld1.blk; (focus ((repeat (first | assumption | (apply Blk.from; assumption))); done)); rfl) | (apply Ld1.rsF; (focus ((repeat (first | assumption | (apply RdS.from; assumption))); done)); assumption; rfl) | (apply Ld1.rs; (focus ((repeat (first | assumption | (apply RdS.from; assumption))); done)); assumption; rfl)) | (show Ld _ _ _ _; first | (apply Ld.blk; (focus ((repeat (first | assumption | (apply Blk.from; assumption))); done)); rfl) | (apply Ld.rs; (focus ((repeat (first | assumption | (apply RdS.from; assumption))); done)); assumption)) | (show Ix _ _ _ _ _; first | (apply Ix.rs; (focus ((repeat (first | assumption | (apply RdS.from; assumption))); done)); (first | with_reducible rfl | assumption); (first | assumption | omega)) | (apply Ix.arr; (focus ((repeat (first | assumption | (apply RdS.from; assumption))); done)); (first | assumption | (simp; done)); (first | with_reducible rfl | assumption); (first | assumption | omega))) | (show Al _ _ _ _; refine Al.mk (fun _ _ _ _ _ _ => ?_)) | (show St _ _ _ _; apply St.new; assumption; assumption; assumption; rfl; rfl; intro _ _ _ _)))
    show Sm _ _ _ _ _
    refine Sm.lkp (kv := kvP) (vv := vvP) (m := m) (x := ((i, state) : Pt)) (z := ((0, 0) : Edge)) (ti := T.t83) (ei := T.t82) T.ok rfl rfl rfl rfl keyP hm ?_
    repeat' (first | ((show Gd _ _ _; first | with_reducible refine Gd.t ?_ | with_reducible refine Gd.f ?_ | with_reducible refine Gd.dec (fun _ => ?_) (fun _ => ?_) | with_reducible refine Gd.beq (fun _ => ?_) (fun _ => ?_) | with_reducible refine Gd.bne (fun _ => ?_) (fun _ => ?_) | with_reducible refine Gd.not ?_ | refine Gd.t ?_ | refine Gd.f ?_ | with_reducible refine Gd.var (fun _ => ?_) (fun _ => ?_)) <;> first | (exfalso; omega) | skip) | (first | (show Gd _ _ _; first | with_reducible refine Gd.t ?_ | with_reducible refine Gd.f ?_ | with_reducible refine Gd.dec (fun _ => ?_) (fun _ => ?_) | with_reducible refine Gd.beq (fun _ => ?_) (fun _ => ?_) | with_reducible refine Gd.bne (fun _ => ?_) (fun _ => ?_) | with_reducible refine Gd.not ?_ | refine Gd.t ?_ | refine Gd.f ?_ | with_reducible refine Gd.var (fun _ => ?_) (fun _ => ?_)) | (show Sq _ _ _; refine Sq.mk ?_) | (show Ld1 _ _ _; first | (apply Ld1.blk; (focus ((repeat (first | assumption | (apply Blk.from; assumption))); done)); rfl) | (apply Ld1.rsF; (focus ((repeat (first | assumption | (apply RdS.from; assumption))); done)); assumption; rfl) | (apply Ld1.rs; (focus ((repeat (first | assumption | (apply RdS.from; assumption))); done)); assumption; rfl)) | (show Ld _ _ _ _; first | (apply Ld.blk; (focus ((repeat (first | assumption | (apply Blk.from; assumption))); done)); rfl) | (apply Ld.rs; (focus ((repeat (first | assumption | (apply RdS.from; assumption))); done)); assumption)) | (show Ix _ _ _ _ _; first | (apply Ix.rs; (focus ((repeat (first | assumption | (apply RdS.from; assumption))); done)); (first | with_reducible rfl | assumption); (first | assumption | omega)) | (apply Ix.arr; (focus ((repeat (first | assumption | (apply RdS.from; assumption))); done)); (first | assumption | (simp; done)); (first | with_reducible rfl | assumption); (first | assumption | omega))) | (show Al _ _ _ _; refine Al.mk (fun _ _ _ _ _ _ => ?_)) | (show St _ _ _ _; apply St.new; assumption; assumption; assumption; rfl; rfl; intro _ _ _ _)))
    rotate_left
    · rename_i hs
      have hnr : ¬ Reach f slot (i, state) := fun hr => by
        have := (fnd_isSome m _).2 (hreach.2 hr)
        rw [hs] at this; simp at this
      exact ⟨none, [], 0, 59, rfl, RdS.nil, by (repeat (first | exact Ext.refl _ | assumption | (apply Ext.from; assumption))), ⟨fun h => absurd h hnb, fun _ _ => ⟨rfl, rfl⟩, fun _ hr => absurd hr hnr⟩, fresh_none⟩
    · rename_i wy _ _ hs px wx0 hpx hbx0 ex0 hsx0 wx ex hbx hsx
      replace hbx : Blk wx px 82 (encP ((i, state) : Pt)) := hbx
      have hmem := (fnd_isSome m _).1 hs
      have hr := hreach.1 hmem
      obtain ⟨j0, hj0⟩ := List.getElem?_of_mem hmem
      obtain ⟨p0, hp0⟩ : ∃ p0, m[j0]? = some (((i, state) : Pt), p0) := by
        rw [List.getElem?_map, Option.map_eq_some_iff] at hj0
        obtain ⟨⟨a, b⟩, h1, h2⟩ := hj0
        exact ⟨b, by rw [h1]; simp at h2; rw [h2]⟩
      have hj0l := (List.getElem?_eq_some_iff.1 hp0).1
      have e2x : Ext w2 wx := by (repeat (first | exact Ext.refl _ | assumption | (apply Ext.from; assumption)))
      have e0x := e02.trans e2x
      have hmx := hm.ext e2x
      have hml := hq.len
      rw [List.length_map] at hml
      clear e2x hbx0 ex0 hsx0 hsx ex e02 hm hbg2 hbw
      repeat' (first | ((show Gd _ _ _; first | with_reducible refine Gd.t ?_ | with_reducible refine Gd.f ?_ | with_reducible refine Gd.dec (fun _ => ?_) (fun _ => ?_) | with_reducible refine Gd.beq (fun _ => ?_) (fun _ => ?_) | with_reducible refine Gd.bne (fun _ => ?_) (fun _ => ?_) | with_reducible refine Gd.not ?_ | refine Gd.t ?_ | refine Gd.f ?_ | with_reducible refine Gd.var (fun _ => ?_) (fun _ => ?_)) <;> first | (exfalso; omega) | skip) | (first | (show Gd _ _ _; first | with_reducible refine Gd.t ?_ | with_reducible refine Gd.f ?_ | with_reducible refine Gd.dec (fun _ => ?_) (fun _ => ?_) | with_reducible refine Gd.beq (fun _ => ?_) (fun _ => ?_) | with_reducible refine Gd.bne (fun _ => ?_) (fun _ => ?_) | with_reducible refine Gd.not ?_ | refine Gd.t ?_ | refine Gd.f ?_ | with_reducible refine Gd.var (fun _ => ?_) (fun _ => ?_)) | (show Sq _ _ _; refine Sq.mk ?_) | (show Ld1 _ _ _; first | (apply Ld1.blk; (focus ((repeat (first | assumption | (apply Blk.from; assumption))); done)); rfl) | (apply Ld1.rsF; (focus ((repeat (first | assumption | (apply RdS.from; assumption))); done)); assumption; rfl) | (apply Ld1.rs; (focus ((repeat (first | assumption | (apply RdS.from; assumption))); done)); assumption; rfl)) | (show Ld _ _ _ _; first | (apply Ld.blk; (focus ((repeat (first | assumption | (apply Blk.from; assumption))); done)); rfl) | (apply Ld.rs; (focus ((repeat (first | assumption | (apply RdS.from; assumption))); done)); assumption)) | (show Ix _ _ _ _ _; first | (apply Ix.rs; (focus ((repeat (first | assumption | (apply RdS.from; assumption))); done)); (first | with_reducible rfl | assumption); (first | assumption | omega)) | (apply Ix.arr; (focus ((repeat (first | assumption | (apply RdS.from; assumption))); done)); (first | assumption | (simp; done)); (first | with_reducible rfl | assumption); (first | assumption | omega))) | (show Al _ _ _ _; refine Al.mk (fun _ _ _ _ _ _ => ?_)) | (show St _ _ _ _; apply St.new; assumption; assumption; assumption; rfl; rfl; intro _ _ _ _)))
      refine Lp.g0 T.ok (σ := List Pt × Option Nat × Edge × Nat × Option Addr × Nat) (fun s => [(14, .slice s.2.2.2.2.1 s.1.length s.2.2.2.2.2), (15, .pointer (some ⟨s.2.2.2.1, 0, none⟩)), (11, .map (some pm))])
        (fun s w' => Cur f slot (i, state) m s.1 s.2.1 s.2.2.1 ∧ (∀ z ∈ s.1, z ∈ m.map (·.1)) ∧ Que ints 1 3 w' w.heap.size s.2.2.2.2.1 s.2.2.2.2.2 (pl s.1) ∧ MapO kvP vvP w' pm m ∧ Ext w w' ∧ Blk w' s.2.2.2.1 82 [.int .i64 s.2.2.1.1, .int .i64 s.2.2.1.2])
        (fun s _ => curN s.2.1) ([], some j0, ((i : Int), state), px, none, 0) rfl ⟨rfl, rfl, rfl, trivial⟩ ⟨⟨_, _, hp0, rfl, .inl ⟨rfl, rfl⟩, by simp; omega⟩, by simp, Que.nil, hmx, e0x, hbx⟩ ?_
      clear hmx e0x hbx
      rintro ⟨bk, jj, ed, qx, C, d⟩ w5 ⟨hcur, hmb, hQ, hm5, e05, hbq⟩
      simp only at hcur hmb hQ hm5 e05 hbq ⊢
      have hbl := pl_len bk
      cases jj with
      | some j =>
        obtain ⟨y, p, hy, rfl, hst2, hlen⟩ := hcur
        simp only at hbq
        obtain ⟨j', hnext, hlt⟩ := Cur.next hTr hy hst2 hlen
        have hwl : (0 : Int) ≤ (y.1 : Int) := by omega
        repeat' (first | ((show Gd _ _ _; first | with_reducible refine Gd.t ?_ | with_reducible refine Gd.f ?_ | with_reducible refine Gd.dec (fun _ => ?_) (fun _ => ?_) | with_reducible refine Gd.beq (fun _ => ?_) (fun _ => ?_) | with_reducible refine Gd.bne (fun _ => ?_) (fun _ => ?_) | with_reducible refine Gd.not ?_ | refine Gd.t ?_ | refine Gd.f ?_ | with_reducible refine Gd.var (fun _ => ?_) (fun _ => ?_)) <;> first | (exfalso; omega) | skip) | (first | (show Gd _ _ _; first | with_reducible refine Gd.t ?_ | with_reducible refine Gd.f ?_ | with_reducible refine Gd.dec (fun _ => ?_) (fun _ => ?_) | with_reducible refine Gd.beq (fun _ => ?_) (fun _ => ?_) | with_reducible refine Gd.bne (fun _ => ?_) (fun _ => ?_) | with_reducible refine Gd.not ?_ | refine Gd.t ?_ | refine Gd.f ?_ | with_reducible refine Gd.var (fun _ => ?_) (fun _ => ?_)) | (show Sq _ _ _; refine Sq.mk ?_) | (show Ld1 _ _ _; first | (apply Ld1.blk; (focus ((repeat (first | assumption | (apply Blk.from; assumption))); done)); rfl) | (apply Ld1.rsF; (focus ((repeat (first | assumption | (apply RdS.from; assumption))); done)); assumption; rfl) | (apply Ld1.rs; (focus ((repeat (first | assumption | (apply RdS.from; assumption))); done)); assumption; rfl)) | (show Ld _ _ _ _; first | (apply Ld.blk; (focus ((repeat (first | assumption | (apply Blk.from; assumption))); done)); rfl) | (apply Ld.rs; (focus ((repeat (first | assumption | (apply RdS.from; assumption))); done)); assumption)) | (show Ix _ _ _ _ _; first | (apply Ix.rs; (focus ((repeat (first | assumption | (apply RdS.from; assumption))); done)); (first | with_reducible rfl | assumption); (first | assumption | omega)) | (apply Ix.arr; (focus ((repeat (first | assumption | (apply RdS.from; assumption))); done)); (first | assumption | (simp; done)); (first | with_reducible rfl | assumption); (first | assumption | omega))) | (show Al _ _ _ _; refine Al.mk (fun _ _ _ _ _ _ => ?_)) | (show St _ _ _ _; apply St.new; assumption; assumption; assumption; rfl; rfl; intro _ _ _ _)))
        refine Sm.lit T.ok (cs := [.int .i64 (y.1 : Int)]) rfl rfl rfl rfl rfl rfl rfl (fun p6 w6 hp6 hb6 e6 _ => ?_)
        have hr6 := rd_of_blk (l := [(y.1 : Int)]) hb6 (by simp)
        refine Sm.appQ (enc := ints) (m := [(y.1 : Int)]) T.ok rfl rfl rfl rfl rfl Nat.zero_lt_one (hQ.ext e6) hbl.symm hr6 rfl (by simp) (fun _ _ => rfl) (fun z _ v hv => by simp [ints] at hv; subst hv; rfl) ?_ ?_ (e05.trans e6).size (fun D d' w7 hQ7 g7 hD => ?_)
        · rw [hbl]; show (bk.length + 1) * 8 ≤ _; omega
        · rw [hbl]; show bk.length + 1 ≤ _; omega
        have hpl : pl bk ++ [(y.1 : Int)] = pl (bk ++ [y]) := by simp [pl]
        rw [hpl] at hQ7
        have hm7 := (hm5.ext e6).grow g7 ((hQ.ext e6).ne_map (hm5.ext e6))
        have hbq7 := (hbq.ext e6).grow' g7 ((hQ.ext e6).ne_t (hbq.ext e6) (by decide))
        have e07 := Grow.extQ (e05.trans e6) g7 (hQ.ext e6) (Nat.le_refl _)
        clear hQ hm5 hbq e05 e6 g7 hr6 hb6 hD
        repeat' (first | ((show Gd _ _ _; first | with_reducible refine Gd.t ?_ | with_reducible refine Gd.f ?_ | with_reducible refine Gd.dec (fun _ => ?_) (fun _ => ?_) | with_reducible refine Gd.beq (fun _ => ?_) (fun _ => ?_) | with_reducible refine Gd.bne (fun _ => ?_) (fun _ => ?_) | with_reducible refine Gd.not ?_ | refine Gd.t ?_ | refine Gd.f ?_ | with_reducible refine Gd.var (fun _ => ?_) (fun _ => ?_)) <;> first | (exfalso; omega) | skip) | (first | (show Gd _ _ _; first | with_reducible refine Gd.t ?_ | with_reducible refine Gd.f ?_ | with_reducible refine Gd.dec (fun _ => ?_) (fun _ => ?_) | with_reducible refine Gd.beq (fun _ => ?_) (fun _ => ?_) | with_reducible refine Gd.bne (fun _ => ?_) (fun _ => ?_) | with_reducible refine Gd.not ?_ | refine Gd.t ?_ | refine Gd.f ?_ | with_reducible refine Gd.var (fun _ => ?_) (fun _ => ?_)) | (show Sq _ _ _; refine Sq.mk ?_) | (show Ld1 _ _ _; first | (apply Ld1.blk; (focus ((repeat (first | assumption | (apply Blk.from; assumption))); done)); rfl) | (apply Ld1.rsF; (focus ((repeat (first | assumption | (apply RdS.from; assumption))); done)); assumption; rfl) | (apply Ld1.rs; (focus ((repeat (first | assumption | (apply RdS.from; assumption))); done)); assumption; rfl)) | (show Ld _ _ _ _; first | (apply Ld.blk; (focus ((repeat (first | assumption | (apply Blk.from; assumption))); done)); rfl) | (apply Ld.rs; (focus ((repeat (first | assumption | (apply RdS.from; assumption))); done)); assumption)) | (show Ix _ _ _ _ _; first | (apply Ix.rs; (focus ((repeat (first | assumption | (apply RdS.from; assumption))); done)); (first | with_reducible rfl | assumption); (first | assumption | omega)) | (apply Ix.arr; (focus ((repeat (first | assumption | (apply RdS.from; assumption))); done)); (first | assumption | (simp; done)); (first | with_reducible rfl | assumption); (first | assumption | omega))) | (show Al _ _ _ _; refine Al.mk (fun _ _ _ _ _ _ => ?_)) | (show St _ _ _ _; apply St.new; assumption; assumption; assumption; rfl; rfl; intro _ _ _ _)))
        rename_i pq wq0 hpq hbq0 eq0 hsq0 wq eq1 hbq1 hsq
        replace hbq1 : Blk wq pq 82 (encP y) := hbq1
        have e7q : Ext w7 wq := by (repeat (first | exact Ext.refl _ | assumption | (apply Ext.from; assumption)))
        have hmq := hm7.ext e7q
        have hpqlo : w.heap.size ≤ pq := by have := e07.size; omega
        have hf := fnd_at hq.nodup hy
        show Sm _ _ _ _ _
        refine Sm.lkp1 (kv := kvP) (vv := vvP) (m := m) (x := y) (z := ((0, 0) : Edge)) (ti := T.t83) (ei := T.t82) T.ok rfl rfl rfl rfl keyP hmq ?_
        rw [hf]
        refine St.upd hbq1 rfl rfl (fun w8 u8 hb8 => ?_)
        replace hb8 : Blk w8 pq 82 [.int .i64 p.1, .int .i64 p.2] := hb8
        have hQ8 := (hQ7.ext e7q).upd u8 ((hQ7.ext e7q).ne_t hbq1 (by decide))
        have hm8 := hmq.upd u8 (hmq.ne_blk hbq1)
        have e08 := (e07.trans e7q).upd u8 hpqlo
        repeat' (first | ((show Gd _ _ _; first | with_reducible refine Gd.t ?_ | with_reducible refine Gd.f ?_ | with_reducible refine Gd.dec (fun _ => ?_) (fun _ => ?_) | with_reducible refine Gd.beq (fun _ => ?_) (fun _ => ?_) | with_reducible refine Gd.bne (fun _ => ?_) (fun _ => ?_) | with_reducible refine Gd.not ?_ | refine Gd.t ?_ | refine Gd.f ?_ | with_reducible refine Gd.var (fun _ => ?_) (fun _ => ?_)) <;> first | (exfalso; omega) | skip) | (first | (show Gd _ _ _; first | with_reducible refine Gd.t ?_ | with_reducible refine Gd.f ?_ | with_reducible refine Gd.dec (fun _ => ?_) (fun _ => ?_) | with_reducible refine Gd.beq (fun _ => ?_) (fun _ => ?_) | with_reducible refine Gd.bne (fun _ => ?_) (fun _ => ?_) | with_reducible refine Gd.not ?_ | refine Gd.t ?_ | refine Gd.f ?_ | with_reducible refine Gd.var (fun _ => ?_) (fun _ => ?_)) | (show Sq _ _ _; refine Sq.mk ?_) | (show Ld1 _ _ _; first | (apply Ld1.blk; (focus ((repeat (first | assumption | (apply Blk.from; assumption))); done)); rfl) | (apply Ld1.rsF; (focus ((repeat (first | assumption | (apply RdS.from; assumption))); done)); assumption; rfl) | (apply Ld1.rs; (focus ((repeat (first | assumption | (apply RdS.from; assumption))); done)); assumption; rfl)) | (show Ld _ _ _ _; first | (apply Ld.blk; (focus ((repeat (first | assumption | (apply Blk.from; assumption))); done)); rfl) | (apply Ld.rs; (focus ((repeat (first | assumption | (apply RdS.from; assumption))); done)); assumption)) | (show Ix _ _ _ _ _; first | (apply Ix.rs; (focus ((repeat (first | assumption | (apply RdS.from; assumption))); done)); (first | with_reducible rfl | assumption); (first | assumption | omega)) | (apply Ix.arr; (focus ((repeat (first | assumption | (apply RdS.from; assumption))); done)); (first | assumption | (simp; done)); (first | with_reducible rfl | assumption); (first | assumption | omega))) | (show Al _ _ _ _; refine Al.mk (fun _ _ _ _ _ _ => ?_)) | (show St _ _ _ _; apply St.new; assumption; assumption; assumption; rfl; rfl; intro _ _ _ _)))
        refine ⟨(bk ++ [y], j', p, pq, D, d'), ⟨at_val rfl (by simp [pl]), rfl, rfl, trivial⟩, rfl, ⟨hnext, fun z hz => ?_, hQ8, hm8, e08, hb8⟩, hlt⟩
        rcases List.mem_append.1 hz with hz | hz
        · exact hmb z hz
        · simp at hz; subst hz
          exact List.mem_map.2 ⟨(z, p), List.mem_of_getElem? hy, rfl⟩
      | none =>
        obtain ⟨rfl, hB, hlast, hlen⟩ := hcur
        repeat' (first | ((show Gd _ _ _; first | with_reducible refine Gd.t ?_ | with_reducible refine Gd.f ?_ | with_reducible refine Gd.dec (fun _ => ?_) (fun _ => ?_) | with_reducible refine Gd.beq (fun _ => ?_) (fun _ => ?_) | with_reducible refine Gd.bne (fun _ => ?_) (fun _ => ?_) | with_reducible refine Gd.not ?_ | refine Gd.t ?_ | refine Gd.f ?_ | with_reducible refine Gd.var (fun _ => ?_) (fun _ => ?_)) <;> first | (exfalso; omega) | skip) | (first | (show Gd _ _ _; first | with_reducible refine Gd.t ?_ | with_reducible refine Gd.f ?_ | with_reducible refine Gd.dec (fun _ => ?_) (fun _ => ?_) | with_reducible refine Gd.beq (fun _ => ?_) (fun _ => ?_) | with_reducible refine Gd.bne (fun _ => ?_) (fun _ => ?_) | with_reducible refine Gd.not ?_ | refine Gd.t ?_ | refine Gd.f ?_ | with_reducible refine Gd.var (fun _ => ?_) (fun _ => ?_)) | (show Sq _ _ _; refine Sq.mk ?_) | (show Ld1 _ _ _; first | (apply Ld1.blk; (focus ((repeat (first | assumption | (apply Blk.from; assumption))); done)); rfl) | (apply Ld1.rsF; (focus ((repeat (first | assumption | (apply RdS.from; assumption))); done)); assumption; rfl) | (apply Ld1.rs; (focus ((repeat (first | assumption | (apply RdS.from; assumption))); done)); assumption; rfl)) | (show Ld _ _ _ _; first | (apply Ld.blk; (focus ((repeat (first | assumption | (apply Blk.from; assumption))); done)); rfl) | (apply Ld.rs; (focus ((repeat (first | assumption | (apply RdS.from; assumption))); done)); assumption)) | (show Ix _ _ _ _ _; first | (apply Ix.rs; (focus ((repeat (first | assumption | (apply RdS.from; assumption))); done)); (first | with_reducible rfl | assumption); (first | assumption | omega)) | (apply Ix.arr; (focus ((repeat (first | assumption | (apply RdS.from; assumption))); done)); (first | assumption | (simp; done)); (first | with_reducible rfl | assumption); (first | assumption | omega))) | (show Al _ _ _ _; refine Al.mk (fun _ _ _ _ _ _ => ?_)) | (show St _ _ _ _; apply St.new; assumption; assumption; assumption; rfl; rfl; intro _ _ _ _)))
        have hL0 : 0 < bk.length := (List.getElem?_eq_some_iff.1 hB.head).1
        refine Sm.makeQ (enc := ints) (z := 0) (n := 0) (c := bk.length) T.ok rfl rfl rfl rfl rfl (Nat.zero_le _) rfl rfl rfl Nat.zero_lt_one (Nat.le_trans (Nat.mul_le_mul_left _ (Nat.le_trans hlen (Nat.le_trans hml (Nat.mul_le_mul_left 3 hl2)))) (by decide)) (by omega) (fun p6 w6 hp6 hQ6 e6 => ?_)
        have hlo6 : w.heap.size ≤ p6 := by have := e05.size; omega
        have hr6 := RdS.from e6 hQ.rd
        have hCE : obk C = none ∨ obk C ≠ obk (some (⟨p6, 0, none⟩ : Addr)) := by
          rcases hob : obk C with _ | b
          · exact .inl rfl
          · exact .inr fun e => by have := (hQ.obk_lt b hob).1; simp [obk] at e; omega
        have hQ60 : Que ints 1 3 w6 w.heap.size (some ⟨p6, 0, none⟩) bk.length (pl (bk.reverse.take 0)) := hQ6.mono hlo6
        have e06 := e05.trans e6
        have hw1 : IntKind.i64.wrap ((bk.length : Int) - 1) = (bk.length : Int) - 1 := w64 rfl (by omega) (by omega)
        clear hQ hm5 e05 hbq e6
        repeat' (first | ((show Gd _ _ _; first | with_reducible refine Gd.t ?_ | with_reducible refine Gd.f ?_ | with_reducible refine Gd.dec (fun _ => ?_) (fun _ => ?_) | with_reducible refine Gd.beq (fun _ => ?_) (fun _ => ?_) | with_reducible refine Gd.bne (fun _ => ?_) (fun _ => ?_) | with_reducible refine Gd.not ?_ | refine Gd.t ?_ | refine Gd.f ?_ | with_reducible refine Gd.var (fun _ => ?_) (fun _ => ?_)) <;> first | (exfalso; omega) | skip) | (first | (show Gd _ _ _; first | with_reducible refine Gd.t ?_ | with_reducible refine Gd.f ?_ | with_reducible refine Gd.dec (fun _ => ?_) (fun _ => ?_) | with_reducible refine Gd.beq (fun _ => ?_) (fun _ => ?_) | with_reducible refine Gd.bne (fun _ => ?_) (fun _ => ?_) | with_reducible refine Gd.not ?_ | refine Gd.t ?_ | refine Gd.f ?_ | with_reducible refine Gd.var (fun _ => ?_) (fun _ => ?_)) | (show Sq _ _ _; refine Sq.mk ?_) | (show Ld1 _ _ _; first | (apply Ld1.blk; (focus ((repeat (first | assumption | (apply Blk.from; assumption))); done)); rfl) | (apply Ld1.rsF; (focus ((repeat (first | assumption | (apply RdS.from; assumption))); done)); assumption; rfl) | (apply Ld1.rs; (focus ((repeat (first | assumption | (apply RdS.from; assumption))); done)); assumption; rfl)) | (show Ld _ _ _ _; first | (apply Ld.blk; (focus ((repeat (first | assumption | (apply Blk.from; assumption))); done)); rfl) | (apply Ld.rs; (focus ((repeat (first | assumption | (apply RdS.from; assumption))); done)); assumption)) | (show Ix _ _ _ _ _; first | (apply Ix.rs; (focus ((repeat (first | assumption | (apply RdS.from; assumption))); done)); (first | with_reducible rfl | assumption); (first | assumption | omega)) | (apply Ix.arr; (focus ((repeat (first | assumption | (apply RdS.from; assumption))); done)); (first | assumption | (simp; done)); (first | with_reducible rfl | assumption); (first | assumption | omega))) | (show Al _ _ _ _; refine Al.mk (fun _ _ _ _ _ _ => ?_)) | (show St _ _ _ _; apply St.new; assumption; assumption; assumption; rfl; rfl; intro _ _ _ _)))
        refine Lp.g0 T.ok (σ := Nat × Option Addr × Nat) (fun s => [(17, .int .i64 ((bk.length : Int) - 1 - s.1)), (16, .slice s.2.1 s.1 s.2.2), (14, .slice C bk.length d)])
          (fun s w' => s.1 ≤ bk.length ∧ Que ints 1 3 w' w.heap.size s.2.1 s.2.2 (pl (bk.reverse.take s.1)) ∧ RdS ints 1 w' C (pl bk) ∧ (obk C = none ∨ obk C ≠ obk s.2.1) ∧ Ext w w') (fun s _ => bk.length - s.1)
          (0, some ⟨p6, 0, none⟩, bk.length) rfl ⟨at_int rfl (by rw [hw1]; simp), rfl, rfl, trivial⟩ ⟨by simp, hQ60, hr6, hCE, e06⟩ ?_
        clear hQ6 hQ60 hr6 hCE e06
        rintro ⟨k2, E, d2⟩ w7 ⟨hk2, hQ, hrC, hCE, e07⟩
        simp only at hk2 hQ hrC hCE e07 ⊢
        have hql : (pl (bk.reverse.take k2)).length = k2 := by simp [pl]; omega
        by_cases hlt : k2 < bk.length
        · obtain ⟨y, hy⟩ : ∃ y, bk[bk.length - 1 - k2]? = some y := ⟨_, List.getElem?_eq_getElem (by omega)⟩
          have hpy : (pl bk)[bk.length - 1 - k2]? = some (y.1 : Int) := by simp [pl, hy]
          have hix : (bk.length : Int) - 1 - (k2 : Int) = ((bk.length - 1 - k2 : Nat) : Int) := by omega
          have hixl : bk.length - 1 - k2 < (pl bk).length := by rw [hbl]; omega
          repeat' (first | ((show Gd _ _ _; first | with_reducible refine Gd.t ?_ | with_reducible refine Gd.f ?_ | with_reducible refine Gd.dec (fun _ => ?_) (fun _ => ?_) | with_reducible refine Gd.beq (fun _ => ?_) (fun _ => ?_) | with_reducible refine Gd.bne (fun _ => ?_) (fun _ => ?_) | with_reducible refine Gd.not ?_ | refine Gd.t ?_ | refine Gd.f ?_ | with_reducible refine Gd.var (fun _ => ?_) (fun _ => ?_)) <;> first | (exfalso; omega) | skip) | (first | (show Gd _ _ _; first | with_reducible refine Gd.t ?_ | with_reducible refine Gd.f ?_ | with_reducible refine Gd.dec (fun _ => ?_) (fun _ => ?_) | with_reducible refine Gd.beq (fun _ => ?_) (fun _ => ?_) | with_reducible refine Gd.bne (fun _ => ?_) (fun _ => ?_) | with_reducible refine Gd.not ?_ | refine Gd.t ?_ | refine Gd.f ?_ | with_reducible refine Gd.var (fun _ => ?_) (fun _ => ?_)) | (show Sq _ _ _; refine Sq.mk ?_) | (show Ld1 _ _ _; first | (apply Ld1.blk; (focus ((repeat (first | assumption | (apply Blk.from; assumption))); done)); rfl) | (apply Ld1.rsF; (focus ((repeat (first | assumption | (apply RdS.from; assumption))); done)); assumption; rfl) | (apply Ld1.rs; (focus ((repeat (first | assumption | (apply RdS.from; assumption))); done)); assumption; rfl)) | (show Ld _ _ _ _; first | (apply Ld.blk; (focus ((repeat (first | assumption | (apply Blk.from; assumption))); done)); rfl) | (apply Ld.rs; (focus ((repeat (first | assumption | (apply RdS.from; assumption))); done)); assumption)) | (show Ix _ _ _ _ _; first | (apply Ix.rs; (focus ((repeat (first | assumption | (apply RdS.from; assumption))); done)); (first | with_reducible rfl | assumption); (first | assumption | omega)) | (apply Ix.arr; (focus ((repeat (first | assumption | (apply RdS.from; assumption))); done)); (first | assumption | (simp; done)); (first | with_reducible rfl | assumption); (first | assumption | omega))) | (show Al _ _ _ _; refine Al.mk (fun _ _ _ _ _ _ => ?_)) | (show St _ _ _ _; apply St.new; assumption; assumption; assumption; rfl; rfl; intro _ _ _ _)))
          refine Sm.lit T.ok (cs := [.int .i64 (y.1 : Int)]) rfl rfl rfl rfl rfl rfl rfl (fun p8 w8 hp8 hb8 e8 _ => ?_)
          have hr8 := rd_of_blk (l := [(y.1 : Int)]) hb8 (by simp)
          refine Sm.appQ (enc := ints) (m := [(y.1 : Int)]) T.ok rfl rfl rfl rfl rfl Nat.zero_lt_one (hQ.ext e8) hql.symm hr8 rfl (by simp) (fun _ _ => rfl) (fun z _ v hv => by simp [ints] at hv; subst hv; rfl) ?_ ?_ (e07.trans e8).size (fun D d' w9 hQ9 g9 hD => ?_)
          · rw [hql]; show (k2 + 1) * 8 ≤ _; omega
          · rw [hql]; show k2 + 1 ≤ _; omega
          have hpl2 : pl (bk.reverse.take k2) ++ [(y.1 : Int)] = pl (bk.reverse.take (k2 + 1)) := by
            have h1 : k2 < bk.reverse.length := by simpa using hlt
            have h2 : bk.reverse[k2] = y := by
              rw [List.getElem_reverse]
              exact (List.getElem?_eq_some_iff.1 hy).2
            rw [List.take_succ_eq_append_getElem h1, h2]; simp [pl]
          rw [hpl2] at hQ9
          have hne : pl bk ≠ [] := fun e => by rw [← List.length_eq_zero_iff, hbl] at e; omega
          have hrC9 := (RdS.from e8 hrC).grow g9 hCE
          have hCE9 := obk_new hCE hD (fun b hb => Nat.lt_of_lt_of_le (hrC.lt hne b hb) e8.size)
          have e09 := Grow.extQ (e07.trans e8) g9 (hQ.ext e8) (Nat.le_refl _)
          repeat' (first | ((show Gd _ _ _; first | with_reducible refine Gd.t ?_ | with_reducible refine Gd.f ?_ | with_reducible refine Gd.dec (fun _ => ?_) (fun _ => ?_) | with_reducible refine Gd.beq (fun _ => ?_) (fun _ => ?_) | with_reducible refine Gd.bne (fun _ => ?_) (fun _ => ?_) | with_reducible refine Gd.not ?_ | refine Gd.t ?_ | refine Gd.f ?_ | with_reducible refine Gd.var (fun _ => ?_) (fun _ => ?_)) <;> first | (exfalso; omega) | skip) | (first | (show Gd _ _ _; first | with_reducible refine Gd.t ?_ | with_reducible refine Gd.f ?_ | with_reducible refine Gd.dec (fun _ => ?_) (fun _ => ?_) | with_reducible refine Gd.beq (fun _ => ?_) (fun _ => ?_) | with_reducible refine Gd.bne (fun _ => ?_) (fun _ => ?_) | with_reducible refine Gd.not ?_ | refine Gd.t ?_ | refine Gd.f ?_ | with_reducible refine Gd.var (fun _ => ?_) (fun _ => ?_)) | (show Sq _ _ _; refine Sq.mk ?_) | (show Ld1 _ _ _; first | (apply Ld1.blk; (focus ((repeat (first | assumption | (apply Blk.from; assumption))); done)); rfl) | (apply Ld1.rsF; (focus ((repeat (first | assumption | (apply RdS.from; assumption))); done)); assumption; rfl) | (apply Ld1.rs; (focus ((repeat (first | assumption | (apply RdS.from; assumption))); done)); assumption; rfl)) | (show Ld _ _ _ _; first | (apply Ld.blk; (focus ((repeat (first | assumption | (apply Blk.from; assumption))); done)); rfl) | (apply Ld.rs; (focus ((repeat (first | assumption | (apply RdS.from; assumption))); done)); assumption)) | (show Ix _ _ _ _ _; first | (apply Ix.rs; (focus ((repeat (first | assumption | (apply RdS.from; assumption))); done)); (first | with_reducible rfl | assumption); (first | assumption | omega)) | (apply Ix.arr; (focus ((repeat (first | assumption | (apply RdS.from; assumption))); done)); (first | assumption | (simp; done)); (first | with_reducible rfl | assumption); (first | assumption | omega))) | (show Al _ _ _ _; refine Al.mk (fun _ _ _ _ _ _ => ?_)) | (show St _ _ _ _; apply St.new; assumption; assumption; assumption; rfl; rfl; intro _ _ _ _)))
          exact ⟨(k2 + 1, D, d'), ⟨at_int rfl (w64 (by simp; omega) (by simp; omega) (by simp; omega)), at_val rfl (by rw [List.length_append, hql]; rfl), rfl, trivial⟩, rfl, ⟨by simp; omega, hQ9, hrC9, hCE9, e09⟩, by simp; omega⟩
        · have hk : k2 = bk.length := by omega
          subst hk
          repeat' (first | ((show Gd _ _ _; first | with_reducible refine Gd.t ?_ | with_reducible refine Gd.f ?_ | with_reducible refine Gd.dec (fun _ => ?_) (fun _ => ?_) | with_reducible refine Gd.beq (fun _ => ?_) (fun _ => ?_) | with_reducible refine Gd.bne (fun _ => ?_) (fun _ => ?_) | with_reducible refine Gd.not ?_ | refine Gd.t ?_ | refine Gd.f ?_ | with_reducible refine Gd.var (fun _ => ?_) (fun _ => ?_)) <;> first | (exfalso; omega) | skip) | (first | (show Gd _ _ _; first | with_reducible refine Gd.t ?_ | with_reducible refine Gd.f ?_ | with_reducible refine Gd.dec (fun _ => ?_) (fun _ => ?_) | with_reducible refine Gd.beq (fun _ => ?_) (fun _ => ?_) | with_reducible refine Gd.bne (fun _ => ?_) (fun _ => ?_) | with_reducible refine Gd.not ?_ | refine Gd.t ?_ | refine Gd.f ?_ | with_reducible refine Gd.var (fun _ => ?_) (fun _ => ?_)) | (show Sq _ _ _; refine Sq.mk ?_) | (show Ld1 _ _ _; first | (apply Ld1.blk; (focus ((repeat (first | assumption | (apply Blk.from; assumption))); done)); rfl) | (apply Ld1.rsF; (focus ((repeat (first | assumption | (apply RdS.from; assumption))); done)); assumption; rfl) | (apply Ld1.rs; (focus ((repeat (first | assumption | (apply RdS.from; assumption))); done)); assumption; rfl)) | (show Ld _ _ _ _; first | (apply Ld.blk; (focus ((repeat (first | assumption | (apply Blk.from; assumption))); done)); rfl) | (apply Ld.rs; (focus ((repeat (first | assumption | (apply RdS.from; assumption))); done)); assumption)) | (show Ix _ _ _ _ _; first | (apply Ix.rs; (focus ((repeat (first | assumption | (apply RdS.from; assumption))); done)); (first | with_reducible rfl | assumption); (first | assumption | omega)) | (apply Ix.arr; (focus ((repeat (first | assumption | (apply RdS.from; assumption))); done)); (first | assumption | (simp; done)); (first | with_reducible rfl | assumption); (first | assumption | omega))) | (show Al _ _ _ _; refine Al.mk (fun _ _ _ _ _ _ => ?_)) | (show St _ _ _ _; apply St.new; assumption; assumption; assumption; rfl; rfl; intro _ _ _ _)))
          have hin : ∀ x ∈ bk, x.1 < f.code.length ∧ okS x.2 := fun x hx => hq.inr x (hmb x hx)
          have hgp := hB.path hlast (by omega) hin
          rw [List.take_of_length_le (by simp)] at hQ hql
          exact ⟨E, pl bk.reverse, d2, 0, by rw [hql]; rfl, hQ.rd, e07, ⟨fun h => absurd h hnb, fun _ hn => absurd hr hn, fun _ _ => ⟨rfl, hgp⟩⟩, fun b hb => (hQ.obk_lt b hb).2⟩
end Go.Proofs.YtbbadmlekagloaaDoor
namespace Go.Sh
open Go.RowKit
set_option linter.unusedSectionVars false
set_option linter.unusedVariables false
set_option linter.unusedSimpArgs false
/-- a piece of memory: the blocks it stands on, what it says; own: it may be written; old: it may lie in memory that was there before the call -/
structure Ck where
  fp : Nat → Prop
  P : World → Prop
  own : Bool
  old : Bool
structure Ck.Ok (c : Ck) (w : World) : Prop where
  holds : c.P w
  lt : ∀ k, c.fp k → k < w.heap.size
  loc : ∀ w', w.heap.size ≤ w'.heap.size → (∀ k, c.fp k → w'.heap[k]? = w.heap[k]?) → c.P w'
theorem Ck.Ok.move {c : Ck} {w w' : World} (h : c.Ok w) (hs : w.heap.size ≤ w'.heap.size) (hb : ∀ k, c.fp k → w'.heap[k]? = w.heap[k]?) : c.Ok w' :=
  ⟨h.loc w' hs hb, fun k hk => Nat.lt_of_lt_of_le (h.lt k hk) hs, fun w'' hs' hb' => h.loc w'' (Nat.le_trans hs hs') fun k hk => (hb' k hk).trans (hb k hk)⟩
abbrev nw : Nat → Prop := fun _ => False
abbrev Ck.new (c : Ck) : Prop := c.own = true ∨ c.old = false
structure Hp (S : Nat → Prop) (w0 w : World) (Γ : List Ck) : Prop where
  tch : Tch S w0 w
  ok : ∀ c ∈ Γ, c.Ok w
  sep : Γ.Pairwise fun a b => (a.own = true ∨ b.own = true) → ∀ k, ¬ (a.fp k ∧ b.fp k)
  dom : ∀ c ∈ Γ, c.new → ∀ k, c.fp k → S k ∨ w0.heap.size ≤ k
section
variable {S S' : Nat → Prop} {w0 w w' wb : World} {Γ Γ' Γ1 Γ2 : List Ck} {c c' d : Ck}
theorem Hp.begin (S : Nat → Prop) (w : World) : Hp S w w [] := ⟨Tch.refl S w, by simp, List.Pairwise.nil, by simp⟩
theorem Hp.frame (H : Hp S w0 w (Γ1 ++ Γ2)) (h1 : ∀ c ∈ Γ1, c.own = true) (hS : ∀ k, S' k → ∃ c ∈ Γ1, c.fp k) (H' : Hp S' w w' Γ') (hn : ∀ c ∈ Γ', c.new) : Hp S w0 w' (Γ' ++ Γ2) := by
  have hsep := List.pairwise_append.1 H.sep
  have hout : ∀ b ∈ Γ2, ∀ k, b.fp k → ¬ S' k := fun b hb k hk hs => by
    obtain ⟨c, hc, hck⟩ := hS k hs
    exact hsep.2.2 c hc b hb (.inl (h1 c hc)) k ⟨hck, hk⟩
  have hdom : ∀ k, S' k → S k ∨ w0.heap.size ≤ k := fun k hs => by
    obtain ⟨c, hc, hck⟩ := hS k hs
    exact H.dom c (List.mem_append_left _ hc) (.inl (h1 c hc)) k hck
  have hsz := H.tch.size
  refine ⟨⟨H'.tch.os.trans H.tch.os, H'.tch.tape.trans H.tch.tape, H'.tch.output.trans H.tch.output, Nat.le_trans H.tch.size H'.tch.size, fun k hk hn => ?_⟩, fun b hb => ?_, ?_, fun b hb hn' k hk => ?_⟩
  · rw [H'.tch.block k (by omega) (fun hs => by rcases hdom k hs with h | h; exact hn h; omega)]
    exact H.tch.block k hk hn
  · rcases List.mem_append.1 hb with hb | hb
    · exact H'.ok b hb
    · have h := H.ok b (List.mem_append_right _ hb)
      exact h.move H'.tch.size fun k hk => H'.tch.block k (h.lt k hk) (hout b hb k hk)
  · refine List.pairwise_append.2 ⟨H'.sep, hsep.2.1, fun a ha b hb _ k ⟨h2, h3⟩ => ?_⟩
    have h4 := (H.ok b (List.mem_append_right _ hb)).lt k h3
    rcases H'.dom a ha (hn a ha) k h2 with h | h
    · exact hout b hb k h3 h
    · omega
  · rcases List.mem_append.1 hb with hb | hb
    · rcases H'.dom b hb hn' k hk with h | h
      · exact hdom k h
      · exact .inr (by omega)
    · exact H.dom b (List.mem_append_right _ hb) hn' k hk
theorem Hp.ext (H : Hp S w0 w Γ) (e : Ext w w') : Hp S w0 w' Γ :=
  Hp.frame (Γ1 := []) (Γ' := []) (S' := nw) H (by simp) (fun k h => h.elim) ⟨Tch.of_ext e, by simp, List.Pairwise.nil, by simp⟩ (by simp)
theorem Hp.e (H : Hp nw w0 w Γ) : Ext w0 w := Ext.tch (Ext.refl w0) H.tch (fun k h => h.elim)
theorem Hp.base (H : Hp S w0 w Γ) (hb : Ext wb w0) (hS : ∀ k, S k → wb.heap.size ≤ k) : Ext wb w := Ext.tch hb H.tch hS
def BaseOk (S : Nat → Prop) (wb w0 : World) : Prop := Ext wb w0 ∧ ∀ k, S k → wb.heap.size ≤ k
theorem Hp.base2 (H : Hp S w0 w Γ) (h : BaseOk S wb w0) : Ext wb w := H.base h.1 h.2
theorem Hp.size (H : Hp S w0 w Γ) : w0.heap.size ≤ w.heap.size := H.tch.size
theorem Hp.perm (H : Hp S w0 w Γ) (h : List.Perm Γ Γ') : Hp S w0 w Γ' :=
  ⟨H.tch, fun c hc => H.ok c (h.mem_iff.2 hc), (h.pairwise_iff (fun {a b} q r k z => q r.symm k ⟨z.2, z.1⟩)).1 H.sep, fun c hc => H.dom c (h.mem_iff.2 hc)⟩
theorem Hp.sub (H : Hp S w0 w Γ) (h : List.Sublist Γ' Γ) : Hp S w0 w Γ' :=
  ⟨H.tch, fun c hc => H.ok c (h.mem hc), H.sep.sublist h, fun c hc => H.dom c (h.mem hc)⟩
theorem Hp.non (H : Hp S w0 w Γ) : Hp S w0 w [] := H.sub (List.nil_sublist _)
theorem Hp.atC (H : Hp S w0 w Γ) (i : Nat) (h : Γ[i]? = some c) : c.P w := (H.ok c (List.mem_of_getElem? h)).holds
def selN : List Ck → List Nat → List Ck
  | _, [] => []
  | Γ, i :: r => match Γ[i]? with | some c => c :: selN (Γ.eraseIdx i) r | none => []
theorem erase_perm {α : Type} : ∀ {l : List α} {i : Nat} {x : α}, l[i]? = some x → List.Perm l (x :: l.eraseIdx i)
  | [], i, x, h => by simp at h
  | y :: r, 0, x, h => by simp at h; subst h; simp
  | y :: r, i + 1, x, h => by
    have ih := erase_perm (l := r) (i := i) (x := x) (by simpa using h)
    simp only [List.eraseIdx_cons_succ]
    exact (List.Perm.cons y ih).trans (List.Perm.swap x y _)
theorem selN_sub : ∀ (is : List Nat) (Γ : List Ck), ∃ Δ, List.Perm Γ (selN Γ is ++ Δ)
  | [], Γ => ⟨Γ, by simp [selN]⟩
  | i :: r, Γ => by
    unfold selN
    split
    · rename_i c hc
      obtain ⟨Δ, h⟩ := selN_sub r (Γ.eraseIdx i)
      refine ⟨Δ, ?_⟩
      exact (erase_perm hc).trans (List.Perm.cons _ h)
    · exact ⟨Γ, by simp⟩
/-- the pieces at these places, each place counted in what is left -/
theorem Hp.sel (H : Hp S w0 w Γ) (is : List Nat) (h : selN Γ is = Γ') : Hp S w0 w Γ' := by
  obtain ⟨Δ, hp⟩ := selN_sub is Γ
  subst h
  exact (H.perm hp).sub (List.sublist_append_left _ _)
/-- a new piece -/
theorem Hp.fr0 (H : Hp S w0 w Γ) (H' : Hp nw w w' [c]) (hn : c.new) : Hp S w0 w' (c :: Γ) :=
  Hp.frame (Γ1 := []) (S' := nw) H (by simp) (fun k h => h.elim) H' (by simpa using hn)
theorem Hp.fr0L (H : Hp S w0 w Γ) (H' : Hp nw w w' Γ') (hn : ∀ c ∈ Γ', c.new) : Hp S w0 w' (Γ' ++ Γ) :=
  Hp.frame (Γ1 := []) (S' := nw) H (by simp) (fun k h => h.elim) H' hn
/-- a piece is no more written -/
def Ck.frz (c : Ck) : Ck := { c with own := false, old := false }
theorem Hp.frz (H : Hp S w0 w (c :: Γ)) (hn : c.new) : Hp S w0 w (c.frz :: Γ) := by
  have hs := List.pairwise_cons.1 H.sep
  refine ⟨H.tch, fun b hb => ?_, List.pairwise_cons.2 ⟨fun b hb h k hk => hs.1 b hb (.inr (by simpa [Ck.frz] using h)) k hk, hs.2⟩, fun b hb hb' => ?_⟩
  · rcases List.mem_cons.1 hb with rfl | hb
    · have := H.ok c (by simp); exact ⟨this.holds, this.lt, this.loc⟩
    · exact H.ok b (by simp [hb])
  · rcases List.mem_cons.1 hb with rfl | hb
    · exact H.dom c (by simp) hn
    · exact H.dom b (by simp [hb]) hb'
/-- two pieces as one -/
theorem Hp.join2 (H : Hp S w0 w (c :: d :: Γ)) {e : Ck} (hco : c.own = true) (hdo : d.own = true) (heo : e.new) (hfp : ∀ k, e.fp k → c.fp k ∨ d.fp k) (hok : (∀ k, ¬ (c.fp k ∧ d.fp k)) → c.Ok w → d.Ok w → e.Ok w) : Hp S w0 w (e :: Γ) := by
  have hs := List.pairwise_cons.1 H.sep
  have hs2 := List.pairwise_cons.1 hs.2
  refine ⟨H.tch, fun b hb => ?_, List.pairwise_cons.2 ⟨fun b hb h k hk => ?_, hs2.2⟩, fun b hb hb' k hk => ?_⟩
  · rcases List.mem_cons.1 hb with rfl | hb
    · exact hok (fun k => hs.1 d (by simp) (.inl hco) k) (H.ok c (by simp)) (H.ok d (by simp))
    · exact H.ok b (by simp [hb])
  · rcases hfp k hk.1 with h' | h'
    · exact hs.1 b (by simp [hb]) (.inl hco) k ⟨h', hk.2⟩
    · exact hs2.1 b hb (.inl hdo) k ⟨h', hk.2⟩
  · rcases List.mem_cons.1 hb with rfl | hb
    · rcases hfp k hk with h | h
      · exact H.dom c (by simp) (.inl hco) k h
      · exact H.dom d (by simp) (.inl hdo) k h
    · exact H.dom b (by simp [hb]) hb' k hk
end

theorem lit0 : (0 : Int) = ((0 : Nat) : Int) := rfl
theorem lit1 : (1 : Int) = ((1 : Nat) : Int) := rfl
theorem lit2 : (2 : Int) = ((2 : Nat) : Int) := rfl
/-! ### blocks -/
abbrev bk (p : Nat) (t : TypeId) (cs : List Value) : Ck := ⟨(· = p), fun w => Blk w p t cs, true, false⟩
theorem bk_ok {p : Nat} {t : TypeId} {cs : List Value} {w : World} (h : Blk w p t cs) : (bk p t cs).Ok w :=
  ⟨h, fun k hk => by subst hk; exact h.lt, fun w' _ hb => (hb p rfl).trans h⟩
abbrev qu {α : Type} (enc : α → List Value) (sz : Nat) (e : TypeId) (A : Option Addr) (c : Nat) (l : List α) : Ck := ⟨fun k => obk A = some k, fun w => Que enc sz e w 0 A c l, true, false⟩
theorem qu_ok {α : Type} {enc : α → List Value} {sz : Nat} {e : TypeId} {A : Option Addr} {c : Nat} {l : List α} {w : World} (h : Que enc sz e w 0 A c l) : (qu enc sz e A c l).Ok w := by
  refine ⟨h, fun k hk => (h.obk_lt k hk).1, fun w' _ hb => ?_⟩
  obtain ⟨h1, h2, h3⟩ := h
  refine ⟨h1, h2, ?_⟩
  rcases h3 with h3 | ⟨b, off, cs, hA, hB, hblk, h4, h5⟩
  · exact .inl h3
  · exact .inr ⟨b, off, cs, hA, hB, (hb b (by show obk A = some b; rw [hA]; rfl)).trans hblk, h4, h5⟩
theorem Hp.one {S : Nat → Prop} {w w' : World} {c : Ck} (t : Tch S w w') (h : c.Ok w') (hd : ∀ k, c.fp k → S k ∨ w.heap.size ≤ k) : Hp S w w' [c] :=
  ⟨t, by simpa using h, List.pairwise_singleton _ _, fun b hb _ => by have := List.mem_singleton.1 hb; subst this; exact hd⟩
theorem Hp.start {S : Nat → Prop} {w : World} {c : Ck} (h : c.Ok w) (hd : ∀ k, c.fp k → S k) : Hp S w w [c] := Hp.one (Tch.refl S w) h fun k hk => .inl (hd k hk)
section
variable {S : Nat → Prop} {w0 w w' : World} {Γ : List Ck} {b p o : Nat} {t : TypeId} {cs vs : List Value} {α : Type} {enc : α → List Value} {sz c : Nat} {e : TypeId} {A : Option Addr} {l : List α}
theorem Hp.blk (H : Hp S w0 w Γ) (i : Nat) (h : Γ[i]? = some (bk p t cs)) : Blk w p t cs := H.atC i h
theorem Hp.que (H : Hp S w0 w Γ) (i : Nat) (h : Γ[i]? = some (qu enc sz e A c l)) : Que enc sz e w 0 A c l := H.atC i h
theorem Hp.rdq (H : Hp S w0 w Γ) (i : Nat) (h : Γ[i]? = some (qu enc sz e A c l)) : RdS enc sz w A l := (H.que i h).rd
theorem rd_full (h : Blk w p t (l.flatMap enc)) (hl : ∀ x ∈ l, (enc x).length = sz) : RdS enc sz w (some ⟨p, 0, none⟩) l := (Que.of_full h (Nat.zero_le _) hl).rd
theorem Hp.rdb (H : Hp S w0 w Γ) (i : Nat) (h : Γ[i]? = some (bk p t (l.flatMap enc))) (hl : ∀ x ∈ l, (enc x).length = sz) : RdS enc sz w (some ⟨p, 0, none⟩) l := rd_full (H.blk i h) hl
abbrev rk {α : Type} (enc : α → List Value) (sz : Nat) (A : Option Addr) (l : List α) : Ck := ⟨fun k => l ≠ [] ∧ obk A = some k, fun w => RdS enc sz w A l, false, false⟩
theorem rk_ok (h : RdS enc sz w A l) : (rk enc sz A l).Ok w :=
  ⟨h, fun k hk => h.lt hk.1 k hk.2, fun w' hs hb => by
    by_cases hl : l = []
    · subst hl; exact RdS.nil
    · exact h.keep hs fun b hb' _ => hb b ⟨hl, hb'⟩⟩
theorem rk_new (h : RdS enc sz w' A l) (e : Ext w w') (hf : Fresh w A) : Hp nw w w' [rk enc sz A l] :=
  Hp.one (Tch.of_ext e) (rk_ok h) fun k hk => .inr (hf k hk.2)
theorem Hp.rdr (H : Hp S w0 w Γ) (i : Nat) (h : Γ[i]? = some (rk enc sz A l)) : RdS enc sz w A l := H.atC i h
theorem Ix.rs0 {k : Addr → Prop} (h : RdS enc sz w A l) (h1 : 0 < l.length) (hk : k ((gA A).add (0 * sz))) : Ix A l.length 0 sz k := Ix.rs (i := 0) h rfl h1 hk
theorem Ix.rs1 {k : Addr → Prop} (h : RdS enc sz w A l) (h1 : 1 < l.length) (hk : k ((gA A).add (1 * sz))) : Ix A l.length 1 sz k := Ix.rs (i := 1) h rfl h1 hk
theorem Ix.rs2 {k : Addr → Prop} (h : RdS enc sz w A l) (h1 : 2 < l.length) (hk : k ((gA A).add (2 * sz))) : Ix A l.length 2 sz k := Ix.rs (i := 2) h rfl h1 hk
theorem Al.hp (H : Hp S w0 w Γ) {k : Nat → World → Prop} (h : ∀ p w', Hp S w0 w' (bk p t cs :: Γ) → w0.heap.size ≤ p → k p w') : Al cs t w k :=
  Al.mk fun p w' hp hb e hs => h p w' (H.fr0 (Hp.one (Tch.of_ext e) (bk_ok hb) (fun k hk => .inr (by subst hk; omega))) (.inl rfl)) (by have := H.size; omega)
theorem upd_hp {cs' : List Value} (u : Upd b w w') (h : Blk w' b t cs') : Hp (· = b) w w' [bk b t cs'] :=
  Hp.one ((Tch.refl _ _).upd u (.inl rfl)) (bk_ok h) fun k hk => .inl hk
theorem grow_hp {A2 : Option Addr} {c2 : Nat} {l2 : List α} (g : Grow A w w') (hA : Que enc sz e w 0 A c l) (h : Que enc sz e w' 0 A2 c2 l2) (hb : obk A2 = obk A ∨ obk A2 = some w.heap.size) : Hp (fun k => obk A = some k) w w' [qu enc sz e A2 c2 l2] := by
  refine Hp.one ?_ (qu_ok h) fun k hk => ?_
  · have hg : w.grownBy w' (obk A) := by rw [← obk_eq A 0 0]; exact g
    exact ⟨hg.os, hg.tape, hg.output, hg.size, fun k hk hS => hg.block k hk (fun e => hS e.symm)⟩
  · rcases hb with hb | hb
    · exact .inl (hb ▸ hk)
    · exact .inr (by have : obk A2 = some k := hk; rw [hb] at this; simp at this; omega)
end
section
variable {S : Nat → Prop} {w0 w w' wb : World} {Γ Γ' L R : List Ck} {c c' d : Ck} {b o : Nat} {t e : TypeId} {cs vs : List Value} {α : Type} {enc : α → List Value} {sz cp : Nat} {A : Option Addr} {l m : List α} {x : α}
/-- one piece of the list becomes another -/
inductive Upd1 : List Ck → Ck → Ck → List Ck → Prop
  | head {Γ : List Ck} {c c' : Ck} : Upd1 (c :: Γ) c c' (c' :: Γ)
  | tail {a : Ck} {Γ Γ' : List Ck} {c c' : Ck} : Upd1 Γ c c' Γ' → Upd1 (a :: Γ) c c' (a :: Γ')
/-- where a piece stands in the list -/
inductive Sp : List Ck → List Ck → Ck → List Ck → Prop
  | head {Γ : List Ck} {c : Ck} : Sp (c :: Γ) [] c Γ
  | tail {a : Ck} {Γ L R : List Ck} {c : Ck} : Sp Γ L c R → Sp (a :: Γ) (a :: L) c R
theorem Sp.eq {Γ L R : List Ck} {c : Ck} (h : Sp Γ L c R) : Γ = L ++ c :: R := by
  induction h with
  | head => rfl
  | tail _ ih => rw [ih]; rfl
theorem Upd1.sp {Γ Γ' : List Ck} {c c' : Ck} (h : Upd1 Γ c c' Γ') : ∃ L R, Sp Γ L c R ∧ Γ' = L ++ c' :: R := by
  induction h with
  | head => exact ⟨[], _, .head, rfl⟩
  | tail _ ih => obtain ⟨L, R, h1, h2⟩ := ih; exact ⟨_ :: L, R, .tail h1, by rw [h2]; rfl⟩
theorem Hp.putS (H : Hp S w0 w Γ) (u : Sp Γ L c R) (H' : Hp c.fp w w' [c']) (ho : c.own = true) (hn : c'.new) : Hp S w0 w' (L ++ c' :: R) := by
  have H1 := (u.eq ▸ H : Hp S w0 w (L ++ c :: R)).perm List.perm_middle
  have H2 := Hp.frame (Γ1 := [c]) (Γ2 := L ++ R) (S' := c.fp) (Γ' := [c']) H1 (by simpa using ho) (fun k h => ⟨c, by simp, h⟩) H' (by simpa using hn)
  exact (show Hp S w0 w' (c' :: (L ++ R)) from H2).perm List.perm_middle.symm
theorem Hp.upd (H : Hp S w0 w Γ) (H' : Hp c.fp w w' [c']) (ho : c.own = true) (hn : c'.new) (u : Upd1 Γ c c' Γ' := by (repeat (first | exact Upd1.head | apply Upd1.tail))) : Hp S w0 w' Γ' := by
  obtain ⟨L, R, h1, rfl⟩ := u.sp
  exact H.putS h1 H' ho hn
theorem Hp.updb {cs' : List Value} (H : Hp S w0 w Γ) (H' : Hp (· = b) w w' [bk b t cs']) (u : Upd1 Γ (bk b t cs) (bk b t cs') Γ' := by (repeat (first | exact Upd1.head | apply Upd1.tail))) : Hp S w0 w' Γ' := H.upd (c := bk b t cs) H' rfl (.inl rfl) u
/-- a call that writes one piece and makes one -/
theorem Hp.updn (H : Hp S w0 w Γ) (H' : Hp c.fp w w' [c', d]) (ho : c.own = true) (hn : c'.new) (hd : d.new) (u : Upd1 Γ c c' Γ' := by (repeat (first | exact Upd1.head | apply Upd1.tail))) : Hp S w0 w' (d :: Γ') := by
  obtain ⟨L, R, h1, rfl⟩ := u.sp
  have H1 := (h1.eq ▸ H : Hp S w0 w (L ++ c :: R)).perm List.perm_middle
  have H2 := Hp.frame (Γ1 := [c]) (Γ2 := L ++ R) (S' := c.fp) (Γ' := [c', d]) H1 (by simpa using ho) (fun k h => ⟨c, by simp, h⟩) H' (by simpa using ⟨hn, hd⟩)
  exact (show Hp S w0 w' (c' :: d :: (L ++ R)) from H2).perm ((List.Perm.swap d c' _).trans (List.Perm.cons d List.perm_middle.symm))
theorem Hp.mem (H : Hp S w0 w Γ) (h : c ∈ Γ) : c.P w := (H.ok c h).holds
theorem src_e (H : Hp nw w0 w Γ) (h : RdS enc sz w0 A l) : RdS enc sz w A l := RdS.from H.e h
theorem src_b (H : Hp S w0 w Γ) (hb : BaseOk S wb w0) (h : RdS enc sz wb A l) : RdS enc sz w A l := RdS.from (H.base2 hb) h
theorem src_q (H : Hp S w0 w Γ) (h : qu enc sz e A cp l ∈ Γ) : RdS enc sz w A l := (show Que enc sz e w 0 A cp l from H.mem h).rd
theorem src_r (H : Hp S w0 w Γ) (h : rk enc sz A l ∈ Γ) : RdS enc sz w A l := H.mem h
theorem Ld1.h {k : Value → Prop} {v : Value} (H : Hp S w0 w Γ) (hk : k v) (hm : bk b t cs ∈ Γ := by (repeat (first | exact List.Mem.head _ | apply List.Mem.tail))) (hv : cs[o]? = some v := by rfl) : Ld1 w ⟨b, o, none⟩ k := Ld1.blk (H.mem hm) hv hk
theorem Ld.h {k : List Value → Prop} {n : Nat} (H : Hp S w0 w Γ) (hk : k ((cs.drop o).take n)) (hm : bk b t cs ∈ Γ := by (repeat (first | exact List.Mem.head _ | apply List.Mem.tail))) (hv : ((cs.drop o).take n).length = n := by rfl) : Ld w ⟨b, o, none⟩ n k := Ld.blk (H.mem hm) hv hk
theorem Ld1.r {k : Value → Prop} {v : Value} {i : Nat} (hk : k v)
    (hr : RdS enc 1 w A l := by (first | assumption | exact src_e (by assumption) (by assumption) | exact src_q (by assumption) (by (repeat (first | exact List.Mem.head _ | apply List.Mem.tail))) | exact src_r (by assumption) (by (repeat (first | exact List.Mem.head _ | apply List.Mem.tail))) | exact src_b (by assumption) (by assumption) (by assumption)))
    (hx : l[i]? = some x := by (first | with_reducible assumption | assumption)) (hv : (enc x)[0]? = some v := by rfl) : Ld1 w ((gA A).add (i * 1)) k := Ld1.rs hr hx hv hk
theorem Ld1.rF {k : Value → Prop} {v : Value} {i : Nat} (hk : k v)
    (hr : RdS enc sz w A l := by (first | assumption | exact src_e (by assumption) (by assumption) | exact src_q (by assumption) (by (repeat (first | exact List.Mem.head _ | apply List.Mem.tail))) | exact src_r (by assumption) (by (repeat (first | exact List.Mem.head _ | apply List.Mem.tail))) | exact src_b (by assumption) (by assumption) (by assumption)))
    (hx : l[i]? = some x := by (first | with_reducible assumption | assumption)) (hv : (enc x)[o]? = some v := by rfl) : Ld1 w (pAdd ((gA A).add (i * sz)) o) k := Ld1.rsF hr hx hv hk
theorem Ld.r {k : List Value → Prop} {i : Nat} (hk : k (enc x))
    (hr : RdS enc sz w A l := by (first | assumption | exact src_e (by assumption) (by assumption) | exact src_q (by assumption) (by (repeat (first | exact List.Mem.head _ | apply List.Mem.tail))) | exact src_r (by assumption) (by (repeat (first | exact List.Mem.head _ | apply List.Mem.tail))) | exact src_b (by assumption) (by assumption) (by assumption)))
    (hx : l[i]? = some x := by (first | with_reducible assumption | assumption)) : Ld w ((gA A).add (i * sz)) sz k := Ld.rs hr hx hk
theorem Ix.h {k : Addr → Prop} {n : Int} {i : Nat} (hk : k ((gA A).add (i * sz)))
    (hr : RdS enc sz w A l := by (first | assumption | exact src_e (by assumption) (by assumption) | exact src_q (by assumption) (by (repeat (first | exact List.Mem.head _ | apply List.Mem.tail))) | exact src_r (by assumption) (by (repeat (first | exact List.Mem.head _ | apply List.Mem.tail))) | exact src_b (by assumption) (by assumption) (by assumption)))
    (he : n = (i : Int) := by (first | (with_reducible exact lit0) | (with_reducible exact lit1) | (with_reducible exact lit2) | with_reducible rfl | with_reducible assumption | assumption)) (h1 : i < l.length := by (first | with_reducible assumption | omega | assumption)) : Ix A l.length n sz k := Ix.rs hr he h1 hk
theorem Ix.ha {k : Addr → Prop} {n : Int} {i len : Nat} (hk : k ((gA A).add (i * sz)))
    (hr : RdS enc sz w A l := by (first | assumption | exact src_e (by assumption) (by assumption) | exact src_q (by assumption) (by (repeat (first | exact List.Mem.head _ | apply List.Mem.tail))) | exact src_r (by assumption) (by (repeat (first | exact List.Mem.head _ | apply List.Mem.tail))) | exact src_b (by assumption) (by assumption) (by assumption)))
    (hl : l.length = len := by (first | with_reducible assumption | (simp; done) | assumption)) (he : n = (i : Int) := by (first | (with_reducible exact lit0) | (with_reducible exact lit1) | (with_reducible exact lit2) | with_reducible rfl | with_reducible assumption | assumption)) (h1 : i < l.length := by (first | with_reducible assumption | omega | assumption)) : Ix A len n sz k := Ix.arr hr hl he h1 hk
section
variable {W : World → Prop} {Rl : World → World → Prop} (hW : QW W w Rl)
include hW
theorem QLd1.h {k : Value → Prop} {v : Value} (H : Hp S w0 w Γ) (hk : k v) (hm : bk b t cs ∈ Γ := by (repeat (first | exact List.Mem.head _ | apply List.Mem.tail))) (hv : cs[o]? = some v := by rfl) : QLd1 W ⟨b, o, none⟩ k := QLd1.blk hW (H.mem hm) hv hk
theorem QLd.h {k : List Value → Prop} {n : Nat} (H : Hp S w0 w Γ) (hk : k ((cs.drop o).take n)) (hm : bk b t cs ∈ Γ := by (repeat (first | exact List.Mem.head _ | apply List.Mem.tail))) (hv : ((cs.drop o).take n).length = n := by rfl) : QLd W ⟨b, o, none⟩ n k := QLd.blk hW (H.mem hm) hv hk
theorem QLd1.r {k : Value → Prop} {v : Value} {i : Nat} (hk : k v)
    (hr : RdS enc 1 w A l := by (first | assumption | exact src_e (by assumption) (by assumption) | exact src_q (by assumption) (by (repeat (first | exact List.Mem.head _ | apply List.Mem.tail))) | exact src_r (by assumption) (by (repeat (first | exact List.Mem.head _ | apply List.Mem.tail))) | exact src_b (by assumption) (by assumption) (by assumption)))
    (hx : l[i]? = some x := by (first | with_reducible assumption | assumption)) (hv : (enc x)[0]? = some v := by rfl) : QLd1 W ((gA A).add (i * 1)) k := QLd1.rs hW hr hx hv hk
theorem QLd1.rF {k : Value → Prop} {v : Value} {i : Nat} (hk : k v)
    (hr : RdS enc sz w A l := by (first | assumption | exact src_e (by assumption) (by assumption) | exact src_q (by assumption) (by (repeat (first | exact List.Mem.head _ | apply List.Mem.tail))) | exact src_r (by assumption) (by (repeat (first | exact List.Mem.head _ | apply List.Mem.tail))) | exact src_b (by assumption) (by assumption) (by assumption)))
    (hx : l[i]? = some x := by (first | with_reducible assumption | assumption)) (hv : (enc x)[o]? = some v := by rfl) : QLd1 W (pAdd ((gA A).add (i * sz)) o) k := QLd1.rsF hW hr hx hv hk
theorem QLd.r {k : List Value → Prop} {i : Nat} (hk : k (enc x))
    (hr : RdS enc sz w A l := by (first | assumption | exact src_e (by assumption) (by assumption) | exact src_q (by assumption) (by (repeat (first | exact List.Mem.head _ | apply List.Mem.tail))) | exact src_r (by assumption) (by (repeat (first | exact List.Mem.head _ | apply List.Mem.tail))) | exact src_b (by assumption) (by assumption) (by assumption)))
    (hx : l[i]? = some x := by (first | with_reducible assumption | assumption)) : QLd W ((gA A).add (i * sz)) sz k := QLd.rs hW hr hx hk
end
theorem Hp.d0 (H : Hp S w0 w (c :: Γ)) : Hp S w0 w Γ := H.sub (List.sublist_cons_self _ _)
theorem Hp.dr (H : Hp S w0 w Γ) (u : Sp Γ L c R) : Hp S w0 w (L ++ R) := ((u.eq ▸ H : Hp S w0 w (L ++ c :: R)).perm List.perm_middle).d0
end
section
variable {S : Nat → Prop} {w0 w w' : World} {Γ Γ' L R : List Ck} {b p o q : Nat} {t : TypeId} {cs vs : List Value} {α : Type} {enc : α → List Value} {sz c : Nat} {e : TypeId} {A : Option Addr} {l m : List α} {x : α} {k : World → Prop}
theorem putL_el {x : α} : ∀ {l : List α} {i : Nat}, (∀ y ∈ l, (enc y).length = sz) → (enc x).length = sz → i < l.length → putL (l.flatMap enc) (i * sz) (enc x) = (l.set i x).flatMap enc
  | [], i, _, _, hi => by simp at hi
  | y :: r, 0, h, hx, _ => by
    have hy := h y (by simp)
    simp [putL, hx, List.drop_append, hy]
  | y :: r, i + 1, h, hx, hi => by
    have ih := putL_el (l := r) (i := i) (fun z hz => h z (by simp [hz])) hx (by simpa using hi)
    have hy := h y (by simp)
    unfold putL at ih ⊢
    simp only [List.flatMap_cons, List.set_cons_succ]
    rw [← ih, show (i + 1) * sz = (enc y).length + i * sz by rw [hy, Nat.add_mul, Nat.one_mul, Nat.add_comm], List.take_length_add_append]
    rw [show (enc y).length + i * sz + (enc x).length = (enc y).length + (i * sz + (enc x).length) by omega, List.drop_length_add_append]
    simp
theorem St.elb {i : Nat} (h : Blk w p t (l.flatMap enc)) (hs : ∀ y ∈ l, (enc y).length = sz) (hx : (enc x).length = sz) (hi : i < l.length) (h1 : (enc x).all Value.oneCell' = true)
    (hk : ∀ w', Upd p w w' → Blk w' p t ((l.set i x).flatMap enc) → k w') : St w ((gA (some ⟨p, 0, none⟩)).add (i * sz)) (enc x) k := by
  have hlen := flat_len hs
  have h5 : i * sz + sz ≤ l.length * sz := by
    have : (i + 1) * sz ≤ l.length * sz := Nat.mul_le_mul_right sz hi
    rw [Nat.add_mul, Nat.one_mul] at this; exact this
  have e1 : (gA (some ⟨p, 0, none⟩)).add (i * sz) = ⟨p, i * sz, none⟩ := by simp only [gA]; rw [add_lit, Nat.zero_add]
  rw [e1]
  refine St.upd h (Nat.ble_eq_true_of_le (by rw [hlen, hx]; exact h5)) h1 fun w' u hb => hk w' u ?_
  rw [putL_el hs hx hi] at hb
  exact hb
theorem St.h (H : Hp S w0 w Γ) (hk : ∀ w', Hp S w0 w' Γ' → k w') (u : Upd1 Γ (bk b t cs) (bk b t (putL cs o vs)) Γ' := by (repeat (first | exact Upd1.head | apply Upd1.tail)))
    (hl : Nat.ble (o + vs.length) cs.length = true := by rfl) (h1 : vs.all Value.oneCell' = true := by rfl) : St w ⟨b, o, none⟩ vs k := by
  obtain ⟨L, R, h2, rfl⟩ := u.sp
  exact St.upd (H.mem (c := bk b t cs) (by rw [h2.eq]; simp)) hl h1 fun w' u hb => hk w' (H.putS h2 (upd_hp u hb) rfl (.inl rfl))
/-- an element of a list is written -/
theorem St.el {j : Nat} (H : Hp S w0 w Γ) (hs : ∀ y ∈ l, (enc y).length = sz) (hx : (enc x).length = sz) (hi : j < l.length) (h1 : (enc x).all Value.oneCell' = true) (hk : ∀ w', Hp S w0 w' Γ' → k w')
    (u : Upd1 Γ (bk b t (l.flatMap enc)) (bk b t ((l.set j x).flatMap enc)) Γ' := by (repeat (first | exact Upd1.head | apply Upd1.tail))) : St w ((gA (some ⟨b, 0, none⟩)).add (j * sz)) (enc x) k := by
  obtain ⟨L, R, h2, rfl⟩ := u.sp
  exact St.elb (H.mem (c := bk b t (l.flatMap enc)) (by rw [h2.eq]; simp)) hs hx hi h1 fun w' u hb => hk w' (H.putS h2 (upd_hp u hb) rfl (.inl rfl))
variable {P : Program} {T : Tab} {ku : Value → World → Prop} {Y : List PanicEntry → World → Prop}
theorem Sm.lith (H : Hp S w0 w Γ) (hT : TabOk P T) {t : TypeId} {ti ei : TI} {len : Nat} {parts : List (Nat × Value)} {cs : List Value}
    (hk : ∀ p w', Hp S w0 w' (bk p e cs :: Γ) → w0.heap.size ≤ p → ku (.slice (some ⟨p, 0, none⟩) len len) w')
    (ht : getT T.ts t = some ti := by rfl) (hd : ti.desc = .slice e := by rfl) (he : getT T.ts e = some ei := by rfl) (hz : Nat.beq ei.zero.cells.toList.length ei.size = true := by rfl)
    (hcs : puBuild ((List.range len).map fun i => (i * ei.size, ei.size)) (List.replicate len ei.zero.cells.toList).flatten (parts.map fun (i, v) => (i, some v)) = some cs := by rfl)
    (hsmall : Nat.ble (len * ei.size) 16777216 = true := by rfl) (hne : Nat.blt 0 (len * ei.size) = true := by rfl) : Sm P (Instr.buildSlice t len parts.toArray) w ku Y :=
  Sm.lit hT ht hd he hz hcs hsmall hne fun p w' hp hb ex _ => hk p w' (H.fr0 (Hp.one (Tch.of_ext ex) (bk_ok hb) (fun k hk => .inr (by subst hk; omega))) (.inl rfl)) (by have := H.size; omega)
theorem Sm.makeh (H : Hp S w0 w Γ) (hT : TabOk P T) {t : TypeId} {ti ei : TI} {n : Nat} {kl kc : IntKind} {a b : Int} {z : α}
    (hbytes : ei.bytes * n ≤ 281474976710656) (h63 : n ≤ 140737488355328)
    (hk : ∀ p w', Hp S w0 w' (bk p e ((List.replicate n z).flatMap enc) :: Γ) → w0.heap.size ≤ p → ku (.slice (some ⟨p, 0, none⟩) n n) w')
    (ht : getT T.ts t = some ti := by rfl) (hd : ti.desc = .slice e := by rfl) (he : getT T.ts e = some ei := by rfl) (ha : a = (n : Int) := by first | rfl | assumption) (hb : b = (n : Int) := by first | rfl | assumption) (hsz : ei.size = sz := by rfl) (hz : ei.zero.cells.toList = enc z := by rfl) (hzl : (enc z).length = sz := by rfl) (hpos : 0 < sz := by decide)
    : Sm P (Instr.makeSlice t (.int kl a) (.int kc b)) w ku Y :=
  Sm.make hT ht hd he ha hb hsz hz hzl hpos hbytes h63 fun p w' hp hb ex => hk p w' (H.fr0 (Hp.one (Tch.of_ext ex) (bk_ok hb) (fun k hk => .inr (by subst hk; omega))) (.inl rfl)) (by have := H.size; omega)
theorem Sm.makeqh (H : Hp S w0 w Γ) (hT : TabOk P T) {t : TypeId} {ti ei : TI} {n c : Nat} {kl kc : IntKind} {a b : Int} {z : α} (hnc : n ≤ c)
    (hbytes : ei.bytes * c ≤ 281474976710656) (h63 : c ≤ 140737488355328)
    (hk : ∀ p w', Hp S w0 w' (qu enc sz e (some ⟨p, 0, none⟩) c (List.replicate n z) :: Γ) → w0.heap.size ≤ p → ku (.slice (some ⟨p, 0, none⟩) n c) w')
    (ht : getT T.ts t = some ti := by rfl) (hd : ti.desc = .slice e := by rfl) (he : getT T.ts e = some ei := by rfl) (ha : a = (n : Int) := by first | rfl | assumption) (hb : b = (c : Int) := by first | rfl | assumption) (hsz : ei.size = sz := by rfl) (hz : ei.zero.cells.toList = enc z := by rfl) (hzl : (enc z).length = sz := by rfl) (hpos : 0 < sz := by decide)
    : Sm P (Instr.makeSlice t (.int kl a) (.int kc b)) w ku Y :=
  Sm.makeQ hT ht hd he ha hb hnc hsz hz hzl hpos hbytes h63 fun p w' hp hb ex => hk p w' (H.fr0 (Hp.one (Tch.of_ext ex) (qu_ok (hb.mono (Nat.zero_le _))) (fun k hk => .inr (by have : some p = some k := hk; simp at this; omega))) (.inl rfl)) (by have := H.size; omega)
/-- a nil slice is a piece of the call's own -/
theorem Hp.nil (H : Hp S w0 w Γ) (enc : α → List Value) (sz : Nat) (e : TypeId) : Hp S w0 w (qu enc sz e none 0 ([] : List α) :: Γ) :=
  H.fr0 (Hp.one (Tch.refl _ _) (qu_ok Que.nil) (fun k hk => by have : none = some k := hk; simp at this)) (.inl rfl)
/-- append(l, m...) -/
theorem Sm.appm (H : Hp S w0 w Γ) (hT : TabOk P T) {t ty : TypeId} {ti ei : TI} {X : Option Addr} {n n2 c2 : Nat}
    (hn : n = l.length) (hr : RdS enc sz w X m) (hn2 : n2 = m.length) (hne : m ≠ []) (hm : ∀ x ∈ m, (enc x).length = sz) (h1 : ∀ x ∈ m, ∀ v ∈ enc x, v.oneCell' = true)
    (hlen : (l.length + m.length) * ei.bytes ≤ 140737488355328) (hlen2 : l.length + m.length ≤ 140737488355328)
    (hk : ∀ A' c' w', Hp S w0 w' (L ++ qu enc sz e A' c' (l ++ m) :: R) → ku (.slice A' (l ++ m).length c') w')
    (u : Sp Γ L (qu enc sz e A c l) R := by (repeat (first | exact Sp.head | apply Sp.tail)))
    (ht : getT T.ts t = some ti := by rfl) (hd : ti.desc = .slice e := by rfl) (he : getT T.ts e = some ei := by rfl) (hsz : ei.size = sz := by rfl) (hz : ei.zero.cells.size = sz := by rfl) (hpos : 0 < sz := by decide)
    : Sm P (Builtin.append_ #[t, t] ty #[.slice A n c, .slice X n2 c2]) w ku Y := by
  have hq : Que enc sz e w 0 A c l := H.mem (c := qu enc sz e A c l) (by rw [u.eq]; simp)
  exact Sm.appQ hT ht hd he hsz hz hpos hq hn hr hn2 hne hm h1 hlen hlen2 (Nat.zero_le _) fun A' c' w' hQ g hb => hk A' c' w' (H.putS u (grow_hp g hq hQ hb) rfl (.inl rfl))
/-- append(l, x) by a literal of one element, which is struck behind it -/
theorem Sm.ap1 (x : α) (H : Hp S w0 w (bk q e (enc x) :: Γ)) (hT : TabOk P T) {t ty : TypeId} {ti ei : TI} {n c2 : Nat}
    (hlen : (n + 1) * ei.bytes ≤ 140737488355328) (hlen2 : n + 1 ≤ 140737488355328)
    (hk : ∀ A' c' w', Hp S w0 w' (L ++ qu enc sz e A' c' (l ++ [x]) :: R) → ku (.slice A' (n + 1) c') w')
    (u : Sp Γ L (qu enc sz e A c l) R := by (repeat (first | exact Sp.head | apply Sp.tail))) (hn : n = l.length := by first | rfl | assumption | (simp; done))
    (hx : (enc x).length = sz := by rfl) (h1 : (enc x).all Value.oneCell' = true := by rfl)
    (ht : getT T.ts t = some ti := by rfl) (hd : ti.desc = .slice e := by rfl) (he : getT T.ts e = some ei := by rfl) (hsz : ei.size = sz := by rfl) (hz : ei.zero.cells.size = sz := by rfl) (hpos : 0 < sz := by decide)
    : Sm P (Builtin.append_ #[t, t] ty #[.slice A n c, .slice (some ⟨q, 0, none⟩) 1 c2]) w ku Y := by
  have hb : Blk w q e ([x].flatMap enc) := by simpa using H.blk 0 rfl
  subst hn
  refine Sm.appm H hT (m := [x]) rfl (rd_full hb (by simpa using hx)) rfl (by simp) (by simpa using hx) (by simpa using h1) hlen hlen2 (L := bk q e (enc x) :: L) (R := R) (fun A' c' w' H' => ?_) (.tail u) ht hd he hsz hz hpos
  have := hk A' c' w' (Hp.d0 H')
  simpa using this
theorem Sm.run_of {s : Sem Value} {v : Value} (h : Sm P s w (fun u w' => u = v ∧ w' = w) (fun _ _ => False)) : s.run P w = .ok v w := by
  have := h.out
  split at this
  · rename_i hr; rw [hr, this.1, this.2]
  · exact this.elim
  · exact this.elim
theorem QSm.cutHi {W : World → Prop} {Rl : World → World → Prop} (hW : QW W w Rl) (hT : TabOk P T) {t : TypeId} {ti ei : TI} {n i : Nat} {kl : IntKind} {a : Int} {k : Value → Prop} (hi : i ≤ c) (hk : k (.slice A i c))
    (ht : getT T.ts t = some ti := by rfl) (hd : ti.desc = .slice e := by rfl) (he : getT T.ts e = some ei := by rfl) (hsz : ei.size = sz := by rfl) (ha : a = (i : Int) := by first | with_reducible rfl | assumption) : QSm P (Instr.sliceAt t (.slice A n c) none (some (.int kl a)) none) W k :=
  QSm.mk hW (fun w' _ => Sm.run_of (Sm.cutHi hT ht hd he hsz ha hi ⟨rfl, rfl⟩)) hk
end
end Go.Sh
namespace Go.Proofs.YtbbadmlekagloaaDoor
open Go Go.Sh
set_option linter.unusedVariables false
set_option linter.unusedSimpArgs false
attribute [local irreducible] Blk Ext RdS
/-- rows, as a piece of memory -/
abbrev mxk (B p n m : Nat) (ps : List Nat) (g : Nat → Nat → Int) : Ck := ⟨fun k => k = p ∨ k ∈ ps, fun w => Mx w B p n m ps g, true, false⟩
theorem mx_ok {w : World} {B p n m : Nat} {ps : List Nat} {g : Nat → Nat → Int} (h : Mx w B p n m ps g) : (mxk B p n m ps g).Ok w := by
  refine ⟨h, fun k hk => ?_, fun w' _ hb => ⟨?_, h.le, fun i q hq => ?_, h.nodup, h.lo, h.plo⟩⟩
  · rcases hk with rfl | hk
    · exact h.top.lt
    · obtain ⟨i, hi⟩ := List.getElem?_of_mem hk
      exact (h.row i k hi).lt
  · have := h.top; unfold Blk at this ⊢; rw [hb p (.inl rfl)]; exact this
  · have := h.row i q hq; unfold Blk at this ⊢; rw [hb q (.inr (List.mem_of_getElem? hq))]; exact this
theorem mx_new {w w' : World} {p n m : Nat} {ps : List Nat} {g : Nat → Nat → Int} (h : Mx w' w.heap.size p n m ps g) (e : Ext w w') : Hp nw w w' [mxk w.heap.size p n m ps g] :=
  Hp.one (Tch.of_ext e) (mx_ok h) fun k hk => .inr (by rcases hk with rfl | hk; exact h.plo; exact h.lo k hk)
theorem flw_and {f : Fn} {slot : Int} {i : Nat} {s : Int} (h : okS s) : bitand (flw f slot i) s = 0 ↔ ¬ Reach f slot (i, s) := by
  unfold flw
  rcases h with rfl | rfl | rfl <;> (by_cases h1 : Reach f slot (i, (1 : Int))) <;> (by_cases h2 : Reach f slot (i, (2 : Int))) <;> (by_cases h4 : Reach f slot (i, (4 : Int))) <;> simp only [h1, h2, h4, if_true, if_false] <;> decide
theorem Trails_bad (f : Fn) (A : Option Addr) (c : Nat) (at_ slot state : Int) (C : Option Addr) (d : Nat) (w : World) (hA : RdC w A f.code) (hb : Bad f at_ slot state) :
    Cl Tryd.prog 26 #[f.v A c, .int .i64 at_, .int .i64 slot, .int .i64 state, .slice C 0 d, .int .i64 3] w (fun v w' => v = .bool true ∧ Ext w w') (fun _ _ => False) := by
  refine calls_ex (args := [f.v A c, .int .i64 at_, .int .i64 slot, .int .i64 state, .slice C 0 d, .int .i64 3]) T.ok Tryd.func26 rfl rfl rfl rfl ?_
  have H := Hp.begin nw w
  by_cases hS : soundB f = true
  · have hsh : shapedB f = true := by simp only [soundB, Bool.and_eq_true] at hS; exact hS.1.1
    obtain ⟨m, hm, hm8⟩ := slots_nat hsh
    obtain ⟨hl1, hl2⟩ := shaped_len hsh
    have hb' : at_ < 0 ∨ (f.code.length : Int) ≤ at_ ∨ slot < 0 ∨ f.slots ≤ slot ∨ (state ≠ 1 ∧ state ≠ 2 ∧ state ≠ 4) := by
      rcases hb with h | h
      · rw [hS] at h; simp at h
      · exact h
    repeat' ((conv => whnf); first | (((with_reducible show Gd _ _ _); first | with_reducible refine Gd.t ?_ | with_reducible refine Gd.f ?_ | with_reducible refine Gd.dec (fun _ => ?_) (fun _ => ?_) | with_reducible refine Gd.beq (fun _ => ?_) (fun _ => ?_) | with_reducible refine Gd.bne (fun _ => ?_) (fun _ => ?_) | with_reducible refine Gd.not ?_ | refine Gd.t ?_ | refine Gd.f ?_ | with_reducible refine Gd.var (fun _ => ?_) (fun _ => ?_)) <;> first | (exfalso; omega) | skip) | with_reducible refine Sq.mk ?_ | ((with_reducible show Ld1 _ _ _); first | refine Ld1.h H ?_ | refine Ld1.rF ?_ | refine Ld1.r ?_) | ((with_reducible show Ld _ _ _ _); first | refine Ld.h H ?_ | refine Ld.r ?_) | ((with_reducible show Ix _ _ _ _ _); (first | refine Ix.h ?_ | refine Ix.ha ?_)) | (refine Al.hp H ?_; clear H; intro _ _ H _) | (refine St.h H ?_; clear H; intro _ H))
    (show Cl _ _ _ _ _ _; refine Cl.mk (Flow_yes f A c m _ (RdS.from H.e hA) hS hm hm8) ?_)
    rintro _ w2 ⟨p, ps, rfl, hpl, hM, e⟩
    replace H := H.fr0 (mx_new hM e) (.inl rfl)
    repeat' (first | ((conv => whnf); first | (((with_reducible show Gd _ _ _); first | with_reducible refine Gd.t ?_ | with_reducible refine Gd.f ?_ | with_reducible refine Gd.dec (fun _ => ?_) (fun _ => ?_) | with_reducible refine Gd.beq (fun _ => ?_) (fun _ => ?_) | with_reducible refine Gd.bne (fun _ => ?_) (fun _ => ?_) | with_reducible refine Gd.not ?_ | refine Gd.t ?_ | refine Gd.f ?_ | with_reducible refine Gd.var (fun _ => ?_) (fun _ => ?_)) <;> first | (exfalso; omega) | skip) | with_reducible refine Sq.mk ?_ | ((with_reducible show Ld1 _ _ _); first | refine Ld1.h H ?_ | refine Ld1.rF ?_ | refine Ld1.r ?_) | ((with_reducible show Ld _ _ _ _); first | refine Ld.h H ?_ | refine Ld.r ?_) | ((with_reducible show Ix _ _ _ _ _); (first | refine Ix.h ?_ | refine Ix.ha ?_)) | (refine Al.hp H ?_; clear H; intro _ _ H _) | (refine St.h H ?_; clear H; intro _ H)) | (((conv => whnf); refine Cl.mk (below_c _ _ _) ?_); rintro _ _ ⟨rfl, hx⟩; replace H := H.ext hx; clear hx))
    all_goals first | exact ⟨rfl, H.e⟩ | (exfalso; simp only [belowB, decide_eq_true_eq] at *; omega)
  · have hS : soundB f = false := by simpa using hS
    repeat' (first | ((conv => whnf); first | (((with_reducible show Gd _ _ _); first | with_reducible refine Gd.t ?_ | with_reducible refine Gd.f ?_ | with_reducible refine Gd.dec (fun _ => ?_) (fun _ => ?_) | with_reducible refine Gd.beq (fun _ => ?_) (fun _ => ?_) | with_reducible refine Gd.bne (fun _ => ?_) (fun _ => ?_) | with_reducible refine Gd.not ?_ | refine Gd.t ?_ | refine Gd.f ?_ | with_reducible refine Gd.var (fun _ => ?_) (fun _ => ?_)) <;> first | (exfalso; omega) | skip) | with_reducible refine Sq.mk ?_ | ((with_reducible show Ld1 _ _ _); first | refine Ld1.h H ?_ | refine Ld1.rF ?_ | refine Ld1.r ?_) | ((with_reducible show Ld _ _ _ _); first | refine Ld.h H ?_ | refine Ld.r ?_) | ((with_reducible show Ix _ _ _ _ _); (first | refine Ix.h ?_ | refine Ix.ha ?_)) | (refine Al.hp H ?_; clear H; intro _ _ H _) | (refine St.h H ?_; clear H; intro _ H)) | (((conv => whnf); refine Cl.mk (Flow_no f A c _ (RdS.from H.e hA) hS) ?_); rintro _ _ ⟨rfl, hx⟩; replace H := H.ext hx; clear hx))
    all_goals exact ⟨rfl, H.e⟩
theorem succ_mem {f : Fn} {slot : Int} {x y : Pt} {c : Ins} (hS : soundB f = true) (hc : f.code[x.1]? = some c) (h : y ∈ succs f slot x) : (y.1 : Int) ∈ nextsS x.1 c ∧ afterS c slot x.2 = y.2 := by
  unfold succs at h
  rw [hc] at h
  simp only [List.mem_map] at h
  obtain ⟨n, hn, rfl⟩ := h
  have := (next_range hS hc n hn).1
  exact ⟨by simp only; rw [Int.toNat_of_nonneg this]; exact hn, rfl⟩
theorem nexts_len (i : Nat) (c : Ins) : (nextsS i c).length ≤ 2 := by
  unfold nextsS
  repeat' split
  all_goals simp
theorem take_mem {l : List Int} {j : Nat} {x y : Int} (h : l[j]? = some y) : x ∈ l.take (j + 1) ↔ x ∈ l.take j ∨ x = y := by
  obtain ⟨hlt, hy⟩ := List.getElem?_eq_some_iff.1 h
  rw [List.take_succ_eq_append_getElem hlt, List.mem_append, hy]
  simp
theorem Trails_no (f : Fn) (A : Option Addr) (c i : Nat) (slot state : Int) (C : Option Addr) (d : Nat) (w : World) (hA : RdC w A f.code) (hS : soundB f = true) (hi : i < f.code.length) (hs0 : 0 ≤ slot) (hs1 : slot < f.slots) (hst : okS state) (hn : ¬ Reach f slot (i, state)) :
    Cl Tryd.prog 26 #[f.v A c, .int .i64 (i : Int), .int .i64 slot, .int .i64 state, .slice C 0 d, .int .i64 59] w (fun v w' => v = .bool true ∧ Ext w w') (fun _ _ => False) := by
  refine calls_ex (args := [f.v A c, .int .i64 (i : Int), .int .i64 slot, .int .i64 state, .slice C 0 d, .int .i64 59]) T.ok Tryd.func26 rfl rfl rfl rfl ?_
  have H := Hp.begin nw w
  have hsh : shapedB f = true := by simp only [soundB, Bool.and_eq_true] at hS; exact hS.1.1
  obtain ⟨m, hm, hm8⟩ := slots_nat hsh
  obtain ⟨hl1, hl2⟩ := shaped_len hsh
  obtain ⟨s, rfl, hsm⟩ : ∃ s : Nat, slot = s ∧ s < m := ⟨slot.toNat, by omega, by omega⟩
  have h0 := (flw_and (f := f) (slot := s) (i := i) hst).2 hn
  unfold okS at hst
  repeat' ((conv => whnf); first | (((with_reducible show Gd _ _ _); first | with_reducible refine Gd.t ?_ | with_reducible refine Gd.f ?_ | with_reducible refine Gd.dec (fun _ => ?_) (fun _ => ?_) | with_reducible refine Gd.beq (fun _ => ?_) (fun _ => ?_) | with_reducible refine Gd.bne (fun _ => ?_) (fun _ => ?_) | with_reducible refine Gd.not ?_ | refine Gd.t ?_ | refine Gd.f ?_ | with_reducible refine Gd.var (fun _ => ?_) (fun _ => ?_)) <;> first | (exfalso; omega) | skip) | with_reducible refine Sq.mk ?_ | ((with_reducible show Ld1 _ _ _); first | refine Ld1.h H ?_ | refine Ld1.rF ?_ | refine Ld1.r ?_) | ((with_reducible show Ld _ _ _ _); first | refine Ld.h H ?_ | refine Ld.r ?_) | ((with_reducible show Ix _ _ _ _ _); (first | refine Ix.h ?_ | refine Ix.ha ?_)) | (refine Al.hp H ?_; clear H; intro _ _ H _) | (refine St.h H ?_; clear H; intro _ H))
  ((conv => whnf); refine Cl.mk (Flow_yes f A c m _ (RdS.from H.e hA) hS hm hm8) ?_)
  rintro _ w2 ⟨p, ps, rfl, hpl, hM, e⟩
  replace H := H.fr0 (mx_new hM e) (.inl rfl)
  repeat' (first | ((conv => whnf); first | (((with_reducible show Gd _ _ _); first | with_reducible refine Gd.t ?_ | with_reducible refine Gd.f ?_ | with_reducible refine Gd.dec (fun _ => ?_) (fun _ => ?_) | with_reducible refine Gd.beq (fun _ => ?_) (fun _ => ?_) | with_reducible refine Gd.bne (fun _ => ?_) (fun _ => ?_) | with_reducible refine Gd.not ?_ | refine Gd.t ?_ | refine Gd.f ?_ | with_reducible refine Gd.var (fun _ => ?_) (fun _ => ?_)) <;> first | (exfalso; omega) | skip) | with_reducible refine Sq.mk ?_ | ((with_reducible show Ld1 _ _ _); first | refine Ld1.h H ?_ | refine Ld1.rF ?_ | refine Ld1.r ?_) | ((with_reducible show Ld _ _ _ _); first | refine Ld.h H ?_ | refine Ld.r ?_) | ((with_reducible show Ix _ _ _ _ _); (first | refine Ix.h ?_ | refine Ix.ha ?_)) | (refine Al.hp H ?_; clear H; intro _ _ H _) | (refine St.h H ?_; clear H; intro _ H)) | (((conv => whnf); refine Cl.mk (below_c _ _ _) ?_); rintro _ _ ⟨rfl, hx⟩; replace H := H.ext hx; clear hx))
  all_goals first | (exfalso; simp only [belowB, decide_eq_false_iff_not] at *; omega) | skip
  all_goals
    have hM := H.atC 0 rfl
    obtain ⟨q, hq⟩ : ∃ q, ps[i]? = some q := ⟨_, List.getElem?_eq_getElem (by omega)⟩
    have hr := hM.rd (by omega)
    have hat := hM.at hq
    have hrow := rd_full (hM.row i q hq) (fun _ _ => rfl)
    have hg := rowL_at (g := flwG f i) hsm
    have hlen := hM.len
    have hlen2 := rowL_len m (flwG f i)
    repeat' ((conv => whnf); first | (((with_reducible show Gd _ _ _); first | with_reducible refine Gd.t ?_ | with_reducible refine Gd.f ?_ | with_reducible refine Gd.dec (fun _ => ?_) (fun _ => ?_) | with_reducible refine Gd.beq (fun _ => ?_) (fun _ => ?_) | with_reducible refine Gd.bne (fun _ => ?_) (fun _ => ?_) | with_reducible refine Gd.not ?_ | refine Gd.t ?_ | refine Gd.f ?_ | with_reducible refine Gd.var (fun _ => ?_) (fun _ => ?_)) <;> first | (exfalso; omega) | skip) | with_reducible refine Sq.mk ?_ | ((with_reducible show Ld1 _ _ _); first | refine Ld1.h H ?_ | refine Ld1.rF ?_ | refine Ld1.r ?_) | ((with_reducible show Ld _ _ _ _); first | refine Ld.h H ?_ | refine Ld.r ?_) | ((with_reducible show Ix _ _ _ _ _); (first | refine Ix.h ?_ | refine Ix.ha ?_)) | (refine Al.hp H ?_; clear H; intro _ _ H _) | (refine St.h H ?_; clear H; intro _ H))
    all_goals first | (exact ⟨rfl, H.e⟩) | (exfalso; exact absurd h0 (by assumption))
set_option maxHeartbeats 1000000 in
theorem Trails_yes (f : Fn) (A : Option Addr) (c i : Nat) (slot state : Int) (C : Option Addr) (d : Nat) (l : List Int) (w : World) (hA : RdC w A f.code) (hC : RdS ints 1 w C l) (hS : soundB f = true) (hi : i < f.code.length) (hs0 : 0 ≤ slot) (hs1 : slot < f.slots) (hst : okS state)
    (hn : Reach f slot (i, state)) (hG : GoodPath f slot (i, state) l) :
    Cl Tryd.prog 26 #[f.v A c, .int .i64 (i : Int), .int .i64 slot, .int .i64 state, .slice C l.length d, .int .i64 0] w (fun v w' => v = .bool true ∧ Ext w w') (fun _ _ => False) := by
  obtain ⟨pts, rfl, hp0, hpl, hstep, hlen3, hin⟩ := hG
  have hpll := pl_len pts
  have hp1 : 1 ≤ pts.length := (List.getElem?_eq_some_iff.1 hp0).1
  have hq0 : (pl pts)[0]? = some 0 := by simp [pl, hp0]
  have hqn : (pl pts)[pts.length - 1]? = some (i : Int) := by
    rw [List.getLast?_eq_getElem?] at hpl
    simp [pl, hpl]
  refine calls_ex (args := [f.v A c, .int .i64 (i : Int), .int .i64 slot, .int .i64 state, .slice C (pl pts).length d, .int .i64 0]) T.ok Tryd.func26 rfl rfl rfl rfl ?_
  have H := Hp.begin nw w
  have hsh : shapedB f = true := by simp only [soundB, Bool.and_eq_true] at hS; exact hS.1.1
  obtain ⟨m, hm, hm8⟩ := slots_nat hsh
  obtain ⟨hl1, hl2⟩ := shaped_len hsh
  obtain ⟨sl0, rfl, hsm⟩ : ∃ s : Nat, slot = s ∧ s < m := ⟨slot.toNat, by omega, by omega⟩
  have h0 : ¬ bitand (flw f sl0 i) state = 0 := fun e => (flw_and hst).1 e hn
  have hw3 : IntKind.i64.wrap (3 * (f.code.length : Int)) = 3 * (f.code.length : Int) := w64 rfl (by omega) (by omega)
  have hw1 : IntKind.i64.wrap (((pl pts).length : Int) - 1) = ((pts.length - 1 : Nat) : Int) := w64 (by omega) (by omega) (by omega)
  unfold okS at hst
  refine Sq.mk ?_
  ((conv => whnf); refine Al.hp H ?_; clear H; intro pf _ H _)
  repeat' ((conv => whnf); first | (((with_reducible show Gd _ _ _); first | with_reducible refine Gd.t ?_ | with_reducible refine Gd.f ?_ | with_reducible refine Gd.dec (fun _ => ?_) (fun _ => ?_) | with_reducible refine Gd.beq (fun _ => ?_) (fun _ => ?_) | with_reducible refine Gd.bne (fun _ => ?_) (fun _ => ?_) | with_reducible refine Gd.not ?_ | refine Gd.t ?_ | refine Gd.f ?_ | with_reducible refine Gd.var (fun _ => ?_) (fun _ => ?_)) <;> first | (exfalso; omega) | skip) | with_reducible refine Sq.mk ?_ | ((with_reducible show Ld1 _ _ _); first | refine Ld1.h H ?_ | refine Ld1.rF ?_ | refine Ld1.r ?_) | ((with_reducible show Ld _ _ _ _); first | refine Ld.h H ?_ | refine Ld.r ?_) | ((with_reducible show Ix _ _ _ _ _); (first | refine Ix.h ?_ | refine Ix.ha ?_)) | (refine Al.hp H ?_; clear H; intro _ _ H _) | (refine St.h H ?_; clear H; intro _ H))
  ((conv => whnf); refine Cl.mk (Flow_yes f A c m _ (RdS.from H.e hA) hS hm hm8) ?_)
  rintro _ w2 ⟨p, ps, rfl, hpl2, hM, e⟩
  replace H := H.fr0 (mx_new hM e) (.inl rfl)
  repeat' (first | ((conv => whnf); first | (((with_reducible show Gd _ _ _); first | with_reducible refine Gd.t ?_ | with_reducible refine Gd.f ?_ | with_reducible refine Gd.dec (fun _ => ?_) (fun _ => ?_) | with_reducible refine Gd.beq (fun _ => ?_) (fun _ => ?_) | with_reducible refine Gd.bne (fun _ => ?_) (fun _ => ?_) | with_reducible refine Gd.not ?_ | refine Gd.t ?_ | refine Gd.f ?_ | with_reducible refine Gd.var (fun _ => ?_) (fun _ => ?_)) <;> first | (exfalso; omega) | skip) | with_reducible refine Sq.mk ?_ | ((with_reducible show Ld1 _ _ _); first | refine Ld1.h H ?_ | refine Ld1.rF ?_ | refine Ld1.r ?_) | ((with_reducible show Ld _ _ _ _); first | refine Ld.h H ?_ | refine Ld.r ?_) | ((with_reducible show Ix _ _ _ _ _); (first | refine Ix.h ?_ | refine Ix.ha ?_)) | (refine Al.hp H ?_; clear H; intro _ _ H _) | (refine St.h H ?_; clear H; intro _ H)) | (((conv => whnf); refine Cl.mk (below_c _ _ _) ?_); rintro _ _ ⟨rfl, hx⟩; replace H := H.ext hx; clear hx))
  all_goals first | (exfalso; simp only [belowB, decide_eq_false_iff_not] at *; omega) | skip
  all_goals
    have hM := H.atC 0 rfl
    obtain ⟨q, hq⟩ : ∃ q, ps[i]? = some q := ⟨_, List.getElem?_eq_getElem (by omega)⟩
    have hr := hM.rd (by omega)
    have hat := hM.at hq
    have hrow := rd_full (hM.row i q hq) (fun _ _ => rfl)
    have hg := rowL_at (g := flwG f i) hsm
    have hlen := hM.len
    have hlen2 := rowL_len m (flwG f i)
    repeat' ((conv => whnf); first | (((with_reducible show Gd _ _ _); first | with_reducible refine Gd.t ?_ | with_reducible refine Gd.f ?_ | with_reducible refine Gd.dec (fun _ => ?_) (fun _ => ?_) | with_reducible refine Gd.beq (fun _ => ?_) (fun _ => ?_) | with_reducible refine Gd.bne (fun _ => ?_) (fun _ => ?_) | with_reducible refine Gd.not ?_ | refine Gd.t ?_ | refine Gd.f ?_ | with_reducible refine Gd.var (fun _ => ?_) (fun _ => ?_)) <;> first | (exfalso; omega) | skip) | with_reducible refine Sq.mk ?_ | ((with_reducible show Ld1 _ _ _); first | refine Ld1.h H ?_ | refine Ld1.rF ?_ | refine Ld1.r ?_) | ((with_reducible show Ld _ _ _ _); first | refine Ld.h H ?_ | refine Ld.r ?_) | ((with_reducible show Ix _ _ _ _ _); (first | refine Ix.h ?_ | refine Ix.ha ?_)) | (refine Al.hp H ?_; clear H; intro _ _ H _) | (refine St.h H ?_; clear H; intro _ H))
    all_goals first | (exfalso; exact absurd (by assumption) h0) | skip
    all_goals
      have H := H.d0
      repeat' ((conv => whnf); first | (((with_reducible show Gd _ _ _); first | with_reducible refine Gd.t ?_ | with_reducible refine Gd.f ?_ | with_reducible refine Gd.dec (fun _ => ?_) (fun _ => ?_) | with_reducible refine Gd.beq (fun _ => ?_) (fun _ => ?_) | with_reducible refine Gd.bne (fun _ => ?_) (fun _ => ?_) | with_reducible refine Gd.not ?_ | refine Gd.t ?_ | refine Gd.f ?_ | with_reducible refine Gd.var (fun _ => ?_) (fun _ => ?_)) <;> first | (exfalso; omega) | skip) | with_reducible refine Sq.mk ?_ | ((with_reducible show Ld1 _ _ _); first | refine Ld1.h H ?_ | refine Ld1.rF ?_ | refine Ld1.r ?_) | ((with_reducible show Ld _ _ _ _); first | refine Ld.h H ?_ | refine Ld.r ?_) | ((with_reducible show Ix _ _ _ _ _); (first | refine Ix.h ?_ | refine Ix.ha ?_)) | (refine Al.hp H ?_; clear H; intro _ _ H _) | (refine St.h H ?_; clear H; intro _ H))
      refine Lp.g0 T.ok (σ := Nat × Pt) (fun s => [(16, .int .i64 (s.1 : Int)), (15, .int .i64 s.2.2), (14, .int .i64 ((pl pts).length : Int)), (4, .slice C (pl pts).length d), (6, .pointer (some ⟨pf, 0, none⟩)), (2, .int .i64 (sl0 : Int)), (3, .int .i64 state)])
        (fun s w' => pts[s.1]? = some s.2 ∧ Hp nw w w' [bk pf 24 (f.v A c).cells.toList]) (fun s _ => pts.length - s.1) (0, (0, 1)) rfl ⟨rfl, rfl, rfl, rfl, rfl, rfl, rfl, trivial⟩ ⟨hp0, H⟩ ?_
      clear H
      rintro ⟨j, x⟩ w3 ⟨hx, H⟩
      simp only at hx H ⊢
      have hjl := (List.getElem?_eq_some_iff.1 hx).1
      have hwj : IntKind.i64.wrap ((j : Int) + 1) = ((j + 1 : Nat) : Int) := w64 (by simp) (by omega) (by omega)
      by_cases hlt : j + 1 < pts.length
      · obtain ⟨y, hy⟩ : ∃ y, pts[j + 1]? = some y := ⟨_, List.getElem?_eq_getElem hlt⟩
        have hlx := (hin x (List.mem_of_getElem? hx)).1
        have hly := (hin y (List.mem_of_getElem? hy)).1
        have hpx : (pl pts)[j]? = some (x.1 : Int) := by simp [pl, hx]
        have hpy : (pl pts)[j + 1]? = some (y.1 : Int) := by simp [pl, hy]
        obtain ⟨ci, hci⟩ : ∃ ci, f.code[x.1]? = some ci := ⟨_, List.getElem?_eq_getElem hlx⟩
        obtain ⟨hmem, hafter⟩ := succ_mem hS hci (hstep j x y hx hy)
        repeat' ((conv => whnf); first | (((with_reducible show Gd _ _ _); first | with_reducible refine Gd.t ?_ | with_reducible refine Gd.f ?_ | with_reducible refine Gd.dec (fun _ => ?_) (fun _ => ?_) | with_reducible refine Gd.beq (fun _ => ?_) (fun _ => ?_) | with_reducible refine Gd.bne (fun _ => ?_) (fun _ => ?_) | with_reducible refine Gd.not ?_ | refine Gd.t ?_ | refine Gd.f ?_ | with_reducible refine Gd.var (fun _ => ?_) (fun _ => ?_)) <;> first | (exfalso; omega) | skip) | with_reducible refine Sq.mk ?_ | ((with_reducible show Ld1 _ _ _); first | refine Ld1.h H ?_ | refine Ld1.rF ?_ | refine Ld1.r ?_) | ((with_reducible show Ld _ _ _ _); first | refine Ld.h H ?_ | refine Ld.r ?_) | ((with_reducible show Ix _ _ _ _ _); (first | refine Ix.h ?_ | refine Ix.ha ?_)) | (refine Al.hp H ?_; clear H; intro _ _ H _) | (refine St.h H ?_; clear H; intro _ H))
        ((conv => whnf); refine Dr.tail T.ok mixed 5 (by kernel_rfl) (fun W wT hW eT _ => ?_); (repeat' ((conv => whnf); first | (((with_reducible show Gd _ _ _); first | with_reducible refine Gd.t ?_ | with_reducible refine Gd.f ?_ | with_reducible refine Gd.dec (fun _ => ?_) (fun _ => ?_) | with_reducible refine Gd.beq (fun _ => ?_) (fun _ => ?_) | with_reducible refine Gd.bne (fun _ => ?_) (fun _ => ?_) | with_reducible refine Gd.not ?_ | refine Gd.t ?_ | refine Gd.f ?_ | with_reducible refine Gd.var (fun _ => ?_) (fun _ => ?_)) <;> first | (exfalso; omega) | skip) | ((with_reducible show QLd1 _ _ _); first | refine QLd1.h hW H ?_ | refine QLd1.rF hW ?_ | refine QLd1.r hW ?_) | ((with_reducible show QLd _ _ _ _); first | refine QLd.h hW H ?_ | refine QLd.r hW ?_) | ((with_reducible show Ix _ _ _ _ _); (first | refine Ix.h ?_ | refine Ix.ha ?_)))); replace H := H.ext eT; clear hW eT)
        repeat' ((conv => whnf); first | (((with_reducible show Gd _ _ _); first | with_reducible refine Gd.t ?_ | with_reducible refine Gd.f ?_ | with_reducible refine Gd.dec (fun _ => ?_) (fun _ => ?_) | with_reducible refine Gd.beq (fun _ => ?_) (fun _ => ?_) | with_reducible refine Gd.bne (fun _ => ?_) (fun _ => ?_) | with_reducible refine Gd.not ?_ | refine Gd.t ?_ | refine Gd.f ?_ | with_reducible refine Gd.var (fun _ => ?_) (fun _ => ?_)) <;> first | (exfalso; omega) | skip) | with_reducible refine Sq.mk ?_ | ((with_reducible show Ld1 _ _ _); first | refine Ld1.h H ?_ | refine Ld1.rF ?_ | refine Ld1.r ?_) | ((with_reducible show Ld _ _ _ _); first | refine Ld.h H ?_ | refine Ld.r ?_) | ((with_reducible show Ix _ _ _ _ _); (first | refine Ix.h ?_ | refine Ix.ha ?_)) | (refine Al.hp H ?_; clear H; intro _ _ H _) | (refine St.h H ?_; clear H; intro _ H))
        ((conv => whnf); refine Cl.mk (Nexts_c f A c x.1 ci _ (RdS.from H.e hA) hci hl2) ?_)
        rintro _ w4 ⟨An, rfl, hrn, e4, hfr⟩
        replace H := H.fr0 (rk_new hrn e4 hfr) (.inr rfl)
        repeat' ((conv => whnf); first | (((with_reducible show Gd _ _ _); first | with_reducible refine Gd.t ?_ | with_reducible refine Gd.f ?_ | with_reducible refine Gd.dec (fun _ => ?_) (fun _ => ?_) | with_reducible refine Gd.beq (fun _ => ?_) (fun _ => ?_) | with_reducible refine Gd.bne (fun _ => ?_) (fun _ => ?_) | with_reducible refine Gd.not ?_ | refine Gd.t ?_ | refine Gd.f ?_ | with_reducible refine Gd.var (fun _ => ?_) (fun _ => ?_)) <;> first | (exfalso; omega) | skip) | with_reducible refine Sq.mk ?_ | ((with_reducible show Ld1 _ _ _); first | refine Ld1.h H ?_ | refine Ld1.rF ?_ | refine Ld1.r ?_) | ((with_reducible show Ld _ _ _ _); first | refine Ld.h H ?_ | refine Ld.r ?_) | ((with_reducible show Ix _ _ _ _ _); (first | refine Ix.h ?_ | refine Ix.ha ?_)) | (refine Al.hp H ?_; clear H; intro _ _ H _) | (refine St.h H ?_; clear H; intro _ H))
        refine Lp.g0 T.ok (σ := Nat) (fun k => [(19, .int .i64 (k : Int)), (18, .bool (decide ((y.1 : Int) ∈ (nextsS x.1 ci).take k))), (17, .slice An (nextsS x.1 ci).length (nextsS x.1 ci).length), (16, .int .i64 (j : Int)), (15, .int .i64 x.2), (14, .int .i64 ((pl pts).length : Int)), (4, .slice C (pl pts).length d), (6, .pointer (some ⟨pf, 0, none⟩)), (2, .int .i64 (sl0 : Int)), (3, .int .i64 state)])
          (fun k w' => k ≤ (nextsS x.1 ci).length ∧ Hp nw w w' [rk ints 1 An (nextsS x.1 ci), bk pf 24 (f.v A c).cells.toList]) (fun k _ => (nextsS x.1 ci).length - k) 0 rfl ⟨rfl, by simp; rfl, rfl, rfl, rfl, rfl, rfl, rfl, rfl, rfl, trivial⟩ ⟨Nat.zero_le _, H⟩ ?_
        clear H
        rintro k w5 ⟨hk, H⟩
        have hwk : IntKind.i64.wrap ((k : Int) + 1) = ((k + 1 : Nat) : Int) := w64 (by simp) (by have := nexts_len x.1 ci; omega) (by have := nexts_len x.1 ci; omega)
        by_cases hkl : k < (nextsS x.1 ci).length
        · obtain ⟨z, hz⟩ : ∃ z, (nextsS x.1 ci)[k]? = some z := ⟨_, List.getElem?_eq_getElem hkl⟩
          have htm := take_mem (x := (y.1 : Int)) hz
          repeat' ((conv => whnf); first | (((with_reducible show Gd _ _ _); first | with_reducible refine Gd.t ?_ | with_reducible refine Gd.f ?_ | with_reducible refine Gd.dec (fun _ => ?_) (fun _ => ?_) | with_reducible refine Gd.beq (fun _ => ?_) (fun _ => ?_) | with_reducible refine Gd.bne (fun _ => ?_) (fun _ => ?_) | with_reducible refine Gd.not ?_ | refine Gd.t ?_ | refine Gd.f ?_ | with_reducible refine Gd.var (fun _ => ?_) (fun _ => ?_)) <;> first | (exfalso; omega) | skip) | with_reducible refine Sq.mk ?_ | ((with_reducible show Ld1 _ _ _); first | refine Ld1.h H ?_ | refine Ld1.rF ?_ | refine Ld1.r ?_) | ((with_reducible show Ld _ _ _ _); first | refine Ld.h H ?_ | refine Ld.r ?_) | ((with_reducible show Ix _ _ _ _ _); (first | refine Ix.h ?_ | refine Ix.ha ?_)) | (refine Al.hp H ?_; clear H; intro _ _ H _) | (refine St.h H ?_; clear H; intro _ H))
          ((conv => whnf); refine Dr.quiet T.ok mixed (by kernel_rfl) (fun W hW => ?_))
          repeat' ((conv => whnf); first | (((with_reducible show Gd _ _ _); first | with_reducible refine Gd.t ?_ | with_reducible refine Gd.f ?_ | with_reducible refine Gd.dec (fun _ => ?_) (fun _ => ?_) | with_reducible refine Gd.beq (fun _ => ?_) (fun _ => ?_) | with_reducible refine Gd.bne (fun _ => ?_) (fun _ => ?_) | with_reducible refine Gd.not ?_ | refine Gd.t ?_ | refine Gd.f ?_ | with_reducible refine Gd.var (fun _ => ?_) (fun _ => ?_)) <;> first | (exfalso; omega) | skip) | ((with_reducible show QLd1 _ _ _); first | refine QLd1.h hW H ?_ | refine QLd1.rF hW ?_ | refine QLd1.r hW ?_) | ((with_reducible show QLd _ _ _ _); first | refine QLd.h hW H ?_ | refine QLd.r hW ?_) | ((with_reducible show Ix _ _ _ _ _); (first | refine Ix.h ?_ | refine Ix.ha ?_)))
          all_goals
            (intro _ eT; replace H := H.ext eT; clear hW eT)
            repeat' ((conv => whnf); first | (((with_reducible show Gd _ _ _); first | with_reducible refine Gd.t ?_ | with_reducible refine Gd.f ?_ | with_reducible refine Gd.dec (fun _ => ?_) (fun _ => ?_) | with_reducible refine Gd.beq (fun _ => ?_) (fun _ => ?_) | with_reducible refine Gd.bne (fun _ => ?_) (fun _ => ?_) | with_reducible refine Gd.not ?_ | refine Gd.t ?_ | refine Gd.f ?_ | with_reducible refine Gd.var (fun _ => ?_) (fun _ => ?_)) <;> first | (exfalso; omega) | skip) | with_reducible refine Sq.mk ?_ | ((with_reducible show Ld1 _ _ _); first | refine Ld1.h H ?_ | refine Ld1.rF ?_ | refine Ld1.r ?_) | ((with_reducible show Ld _ _ _ _); first | refine Ld.h H ?_ | refine Ld.r ?_) | ((with_reducible show Ix _ _ _ _ _); (first | refine Ix.h ?_ | refine Ix.ha ?_)) | (refine Al.hp H ?_; clear H; intro _ _ H _) | (refine St.h H ?_; clear H; intro _ H))
            refine ⟨k + 1, ⟨at_int rfl hwk, at_val rfl (b_eq ?_), rfl, rfl, rfl, rfl, rfl, rfl, rfl, rfl, trivial⟩, rfl, ⟨by omega, H⟩, by omega⟩
            rw [Bool.eq_iff_iff, decide_eq_true_eq, htm]; first | (exact ⟨fun _ => .inl (by assumption), fun _ => rfl⟩) | (rw [beq_iff_eq]; exact ⟨fun h => .inr h.symm, fun h => h.elim (fun h => absurd h (by assumption)) Eq.symm⟩)
        · have hk : k = (nextsS x.1 ci).length := by omega
          subst hk
          rw [List.take_length]
          repeat' ((conv => whnf); first | (((with_reducible show Gd _ _ _); first | with_reducible refine Gd.t ?_ | with_reducible refine Gd.f ?_ | with_reducible refine Gd.dec (fun _ => ?_) (fun _ => ?_) | with_reducible refine Gd.beq (fun _ => ?_) (fun _ => ?_) | with_reducible refine Gd.bne (fun _ => ?_) (fun _ => ?_) | with_reducible refine Gd.not ?_ | refine Gd.t ?_ | refine Gd.f ?_ | with_reducible refine Gd.var (fun _ => ?_) (fun _ => ?_)) <;> first | (exfalso; omega) | skip) | with_reducible refine Sq.mk ?_ | ((with_reducible show Ld1 _ _ _); first | refine Ld1.h H ?_ | refine Ld1.rF ?_ | refine Ld1.r ?_) | ((with_reducible show Ld _ _ _ _); first | refine Ld.h H ?_ | refine Ld.r ?_) | ((with_reducible show Ix _ _ _ _ _); (first | refine Ix.h ?_ | refine Ix.ha ?_)) | (refine Al.hp H ?_; clear H; intro _ _ H _) | (refine St.h H ?_; clear H; intro _ H))
          all_goals first | (exfalso; contradiction) | skip
          repeat' ((conv => whnf); first | (((with_reducible show Gd _ _ _); first | with_reducible refine Gd.t ?_ | with_reducible refine Gd.f ?_ | with_reducible refine Gd.dec (fun _ => ?_) (fun _ => ?_) | with_reducible refine Gd.beq (fun _ => ?_) (fun _ => ?_) | with_reducible refine Gd.bne (fun _ => ?_) (fun _ => ?_) | with_reducible refine Gd.not ?_ | refine Gd.t ?_ | refine Gd.f ?_ | with_reducible refine Gd.var (fun _ => ?_) (fun _ => ?_)) <;> first | (exfalso; omega) | skip) | with_reducible refine Sq.mk ?_ | ((with_reducible show Ld1 _ _ _); first | refine Ld1.h H ?_ | refine Ld1.rF ?_ | refine Ld1.r ?_) | ((with_reducible show Ld _ _ _ _); first | refine Ld.h H ?_ | refine Ld.r ?_) | ((with_reducible show Ix _ _ _ _ _); (first | refine Ix.h ?_ | refine Ix.ha ?_)) | (refine Al.hp H ?_; clear H; intro _ _ H _) | (refine St.h H ?_; clear H; intro _ H))
          replace H := H.d0
          ((conv => whnf); refine Dr.quiet T.ok mixed (by kernel_rfl) (fun W hW => ?_))
          repeat' (first | ((conv => whnf); first | (((with_reducible show Gd _ _ _); first | with_reducible refine Gd.t ?_ | with_reducible refine Gd.f ?_ | with_reducible refine Gd.dec (fun _ => ?_) (fun _ => ?_) | with_reducible refine Gd.beq (fun _ => ?_) (fun _ => ?_) | with_reducible refine Gd.bne (fun _ => ?_) (fun _ => ?_) | with_reducible refine Gd.not ?_ | refine Gd.t ?_ | refine Gd.f ?_ | with_reducible refine Gd.var (fun _ => ?_) (fun _ => ?_)) <;> first | (exfalso; omega) | skip) | ((with_reducible show QLd1 _ _ _); first | refine QLd1.h hW H ?_ | refine QLd1.rF hW ?_ | refine QLd1.r hW ?_) | ((with_reducible show QLd _ _ _ _); first | refine QLd.h hW H ?_ | refine QLd.r hW ?_) | ((with_reducible show Ix _ _ _ _ _); (first | refine Ix.h ?_ | refine Ix.ha ?_))) | ((conv => whnf); refine QCl.mk hW (fun _ ee => Cl.mk (After_c _ _ _ _) (fun _ _ h => h)) ?_))
          (intro _ eT; replace H := H.ext eT; clear hW eT)
          repeat' ((conv => whnf); first | (((with_reducible show Gd _ _ _); first | with_reducible refine Gd.t ?_ | with_reducible refine Gd.f ?_ | with_reducible refine Gd.dec (fun _ => ?_) (fun _ => ?_) | with_reducible refine Gd.beq (fun _ => ?_) (fun _ => ?_) | with_reducible refine Gd.bne (fun _ => ?_) (fun _ => ?_) | with_reducible refine Gd.not ?_ | refine Gd.t ?_ | refine Gd.f ?_ | with_reducible refine Gd.var (fun _ => ?_) (fun _ => ?_)) <;> first | (exfalso; omega) | skip) | with_reducible refine Sq.mk ?_ | ((with_reducible show Ld1 _ _ _); first | refine Ld1.h H ?_ | refine Ld1.rF ?_ | refine Ld1.r ?_) | ((with_reducible show Ld _ _ _ _); first | refine Ld.h H ?_ | refine Ld.r ?_) | ((with_reducible show Ix _ _ _ _ _); (first | refine Ix.h ?_ | refine Ix.ha ?_)) | (refine Al.hp H ?_; clear H; intro _ _ H _) | (refine St.h H ?_; clear H; intro _ H))
          refine ⟨(j + 1, y), ⟨at_int rfl hwj, at_val rfl (by rw [hafter]), rfl, rfl, rfl, rfl, rfl, trivial⟩, rfl, ⟨hy, H⟩, by simp only; omega⟩
      · have hj : j + 1 = pts.length := by omega
        have hlast : x = (i, state) := by
          rw [List.getLast?_eq_getElem?, ← hj, Nat.add_sub_cancel, hx] at hpl
          simpa using hpl
        subst hlast
        repeat' ((conv => whnf); first | (((with_reducible show Gd _ _ _); first | with_reducible refine Gd.t ?_ | with_reducible refine Gd.f ?_ | with_reducible refine Gd.dec (fun _ => ?_) (fun _ => ?_) | with_reducible refine Gd.beq (fun _ => ?_) (fun _ => ?_) | with_reducible refine Gd.bne (fun _ => ?_) (fun _ => ?_) | with_reducible refine Gd.not ?_ | refine Gd.t ?_ | refine Gd.f ?_ | with_reducible refine Gd.var (fun _ => ?_) (fun _ => ?_)) <;> first | (exfalso; omega) | skip) | with_reducible refine Sq.mk ?_ | ((with_reducible show Ld1 _ _ _); first | refine Ld1.h H ?_ | refine Ld1.rF ?_ | refine Ld1.r ?_) | ((with_reducible show Ld _ _ _ _); first | refine Ld.h H ?_ | refine Ld.r ?_) | ((with_reducible show Ix _ _ _ _ _); (first | refine Ix.h ?_ | refine Ix.ha ?_)) | (refine Al.hp H ?_; clear H; intro _ _ H _) | (refine St.h H ?_; clear H; intro _ H))
        exact ⟨b_eq (by simp), H.e⟩
end Go.Proofs.YtbbadmlekagloaaDoor
namespace Go.Sh
set_option linter.unusedVariables false
set_option linter.unusedSimpArgs false
structure DCl (P : Program) (f : Nat) (args : Array Value) (u : FrameMode) (w : World) (k : FrameMode → World → Prop) : Prop where
  of ::
  out : CallsD P f args u w fun e u' w' => match e with | .returned _ => k u' w' | _ => False
def retR (T : List (Nat × TI)) (rs : List ResultVar) (R : Value → World → Prop) (F : Fr) (w : World) : Prop :=
  match retV F rs with
  | none => False
  | some l => getR T w l fun vs => R (oneV vs) w
def dfT (fs : List Nat) (d : Deferred) (k : Nat → Array Value → Prop) : Prop :=
  match d.target with
  | .fn fn cap => match fn with
    | .func g => match memN fs g with | true => k g (cat d.args.toList cap.toList).toArray | false => False
    | _ => False
  | _ => False
def retD (P : Program) (T : Tab) (rs : List ResultVar) (R : Value → World → Prop) (X : List PanicEntry → World → Prop) : Exit → Fr → World → Prop := fun e F w =>
  match e with
  | .normal | .ret => match F.ds with
    | [] => retR T.ts rs R F w
    | d :: ds => match ds with
      | [] => dfT T.fs d fun g args => DCl P g args .returning w fun u w' => u = .returning ∧ retR T.ts rs R F w'
      | _ => False
  | .panic ch => match F.ds with
    | [] => X ch w
    | d :: ds => match ds with
      | [] => dfT T.fs d fun g args => DCl P g args (.panicking ch) w fun u w' => match settle u with
        | .returning => retR T.ts rs R F w'
        | .panicking ch' => X ch' w'
        | .run => False
      | _ => False
  | _ => False
section
variable {P : Program} {T : Tab}
theorem dfT_some (hT : TabOk P T) {d : Deferred} {k : Nat → Array Value → Prop} (h : dfT T.fs d k) : ∃ fv cap g args, d.target = .fn fv cap ∧ (∀ w, (invoke d.target d.args).run P w = .ok (.enter g args) w) ∧ k g args := by
  unfold dfT at h
  split at h <;> try (exact h.elim)
  rename_i fn cap ht
  split at h <;> try (exact h.elim)
  rename_i g
  split at h <;> try (exact h.elim)
  rename_i hm
  obtain ⟨fn', hf, hn, hb⟩ := hT.2.get hm
  refine ⟨_, _, _, _, ht, fun w => ?_, h⟩
  rw [ht]
  have e : (cat d.args.toList cap.toList).toArray = d.args ++ cap := by
    unfold cat
    split
    · rename_i hc; simp [Array.toList_eq_nil_iff] at hc; simp [hc]
    · rename_i hc; apply Array.ext'; simp
  rw [e]
  have hn' : ¬ fn'.name = "runtime.NumGoroutine" := by simpa using hn
  have hb' : ¬ fn'.body = none := by
    intro h0; rw [h0] at hb; simp at hb
  simp [invoke, callFunc, hf, hn', hb']
theorem calls_exd (hT : TabOk P T) {f : FuncId} {fn : Func} {c : Code} {args : List Value} {w : World} {R : Value → World → Prop} {X : List PanicEntry → World → Prop} {m : Nat} {rs : List ResultVar}
    (hf : P.funcs[f]? = some fn) (hb : fn.body = some c) (hm : fn.ntmps = m) (hrs : fn.results.toList = rs) (hn : Nat.ble args.length m = true)
    (h : exC P T m c ⟨argsEnv args 0, []⟩ w (retD P T rs R X)) : Cl P f args.toArray w R X := by
  subst hm hrs
  let Q : Ending → World → Prop := fun e w' => match e with | .returned v => R v w' | .panicked ch => X ch w' | .outgrown => False
  refine ⟨calls_of_wp_defers hf hb (wp_mono (exC_sound hT c _ _ w _ (Agr.enter hn) h) fun e a' w' q => ?_)⟩
  obtain ⟨F', ha', q⟩ := q
  have res : ∀ w', retR T.ts fn.results.toList R F' w' → ∃ v, (results fn a'.tmps).run P w' = .ok v w' ∧ Q (.returned v) w' := fun w' q => by
    unfold retR at q
    split at q <;> try (exact q.elim)
    rename_i l hl
    obtain ⟨vs, hr, q⟩ := run_results hT w' ha' hl q
    exact ⟨_, hr, q⟩
  have fin : ∀ w' u', (match settle u' with | .returning => retR T.ts fn.results.toList R F' w' | .panicking ch' => X ch' w' | .run => False) → Leaves P fn a'.tmps Q [] (settle u') w' := fun w' u' q => by
    split at q <;> rename_i hs <;> rw [hs]
    · exact res w' q
    · exact q
    · exact q.elim
  have key : retD P T fn.results.toList R X .ret F' w' → Leaves P fn a'.tmps Q a'.defers .returning w' := fun q => by
    unfold retD at q
    simp only at q
    rw [ha'.2.1]
    split at q
    · rename_i hds; rw [hds]; exact res w' q
    · rename_i d ds hds
      rw [hds]
      split at q <;> try (exact q.elim)
      obtain ⟨fv, cap, g, args, h1, h2, hd⟩ := dfT_some hT q
      refine ⟨by simp, fv, cap, g, args, h1, h2 w', CallsD.mono hd.out fun e u' w'' q => ?_⟩
      cases e with
      | returned v =>
        obtain ⟨rfl, q⟩ := q
        exact fin w'' .returning (by simpa [settle] using q)
      | panicked ch => exact q.elim
      | outgrown => exact q.elim
  cases e with
  | normal => exact key q
  | ret => exact key q
  | panic ch =>
    unfold retD at q
    simp only at q
    show Leaves P fn a'.tmps Q a'.defers (.panicking ch) w'
    rw [ha'.2.1]
    split at q
    · rename_i hds; rw [hds]; exact q
    · rename_i d ds hds
      rw [hds]
      split at q <;> try (exact q.elim)
      obtain ⟨fv, cap, g, args, h1, h2, hd⟩ := dfT_some hT q
      refine ⟨by simp, fv, cap, g, args, h1, h2 w', CallsD.mono hd.out fun e u' w'' q => ?_⟩
      cases e with
      | returned v => exact fin w'' u' q
      | panicked ch => exact q.elim
      | outgrown => exact q.elim
  | _ => exact q.elim
/-- a closure whose first region recovers alone -/
theorem DCl.recov (hT : TabOk P T) {f : FuncId} {fn : Func} {args : List Value} {w : World} {k : FrameMode → World → Prop} {m id d : Nat} {o : Oper} {c2 : Code} {u u1 : FrameMode} {v : Value}
    (hf : P.funcs[f]? = some fn) (hb : fn.body = some (.seq (.region id #[o] false) c2)) (hm : fn.ntmps = m) (hrs : fn.results = #[]) (hn : Nat.ble args.length m = true)
    (ho : ∀ ρ w, (execOp ρ o).run P w = .ok .recover w) (hg : o.guard = none) (hd : o.dst = some d) (hdn : Nat.blt d m = true)
    (hu : (u = .returning ∧ v = .nilIface ∧ u1 = .returning) ∨ ∃ x, u = .panicking [{ v := x, recovered := false }] ∧ v = x ∧ u1 = .panicking [{ v := x, recovered := true }])
    (h : exC P T m c2 ⟨(d, v) :: argsEnv args 0, []⟩ w (fun e F w' => match e with | .normal | .ret => F.ds = [] ∧ k u1 w' | _ => False)) : DCl P f args.toArray u w k := by
  subst hm
  refine ⟨callsD_of_wpS hf hb fun c₀ cs hc => ?_⟩
  refine wpS_seq (wpS_region ?_)
  have hr0 : List.range (#[o] : Array Oper).size = [0] := rfl
  rw [hr0]
  have ha := (Agr.enter (fn := fn) hn).put (d := some d) (by simpa [dstOk] using hdn) v
  have fin : ∀ c₁ : Frame, c₁ = { c₀ with mode := u1 } → c2.wpS P (bodyPostS P fn c₀ cs (fun e u' w' => match e with | .returned _ => k u' w' | _ => False)) (Act.put { tmps := args.toArray ++ Array.replicate (fn.ntmps - args.toArray.size) undef, defers := [] } (some d) v) (c₁ :: cs) w := fun c₁ h1 => by
    refine wpS_of_wp (wp_mono (exC_sound hT c2 _ _ w _ ha (by exact h)) fun e a' w' q => ?_)
    obtain ⟨F', ha', q⟩ := q
    cases e with
    | normal =>
      refine ⟨ha'.2.1.trans q.1, u1, by rw [h1], .tuple #[], ?_, q.2⟩
      exact (by simp [results, hrs] : (results fn a'.tmps).run P w' = .ok (.tuple #[]) w')
    | ret =>
      refine ⟨ha'.2.1.trans q.1, u1, by rw [h1], .tuple #[], ?_, q.2⟩
      exact (by simp [results, hrs] : (results fn a'.tmps).run P w' = .ok (.tuple #[]) w')
    | _ => exact q.elim
  unfold wpOpsS
  simp only [List.getElem?_toArray, List.getElem?_cons_zero, wanted_none hg, if_true, ho, hd]
  rcases hu with ⟨h1, rfl, h3⟩ | ⟨x, h1, rfl, h3⟩
  · have : recoverD (c₀ :: cs) = none := by simp [recoverD, hc, h1]
    simp only [this]
    exact fin c₀ (by rw [h3, ← h1, ← hc])
  · have : recoverD (c₀ :: cs) = some (v, { c₀ with mode := u1 } :: cs) := by simp [recoverD, hc, h1, h3]
    simp only [this]
    exact fin _ rfl
theorem DCl.mono {f : Nat} {args : Array Value} {u : FrameMode} {w : World} {k k' : FrameMode → World → Prop} (h : DCl P f args u w k) (hk : ∀ u' w', k u' w' → k' u' w') : DCl P f args u w k' :=
  ⟨CallsD.mono h.out fun e u' w' q => by
    cases e with
    | returned v => exact hk u' w' q
    | panicked ch => exact q.elim
    | outgrown => exact q.elim⟩
theorem Sm.ran {s : Sem Value} {w w' : World} {v : Value} {k : Value → World → Prop} {X : List PanicEntry → World → Prop} (h : s.run P w = .ok v w') (hk : k v w') : Sm P s w k X := ⟨by rw [h]; exact hk⟩
end
end Go.Sh
namespace Go.Proofs.YtbbadmlekagloaaDoor
open Go Go.Sh
set_option linter.unusedVariables false
set_option linter.unusedSimpArgs false
attribute [local irreducible] Blk Ext RdS
/-- a function as it lies in memory -/
abbrev FE := Fn × Option Addr × Nat
def FE.enc (x : FE) : List Value := [.int .i64 x.1.params, .int .i64 x.1.regs, .int .i64 x.1.slots, .slice x.2.1 x.1.code.length x.2.2]
theorem FE.v_enc (x : FE) : x.1.v x.2.1 x.2.2 = .agg x.enc.toArray := rfl
def pv (A : Option Addr) (n c : Nat) : Value := .agg #[.slice A n c]
def fns (l : List FE) : List Fn := l.map (·.1)
/-- a program that can be read -/
structure RdP (w : World) (A : Option Addr) (l : List FE) : Prop where
  top : RdS FE.enc 4 w A l
  code : ∀ x ∈ l, RdC w x.2.1 x.1.code
theorem RdP.ext {w w' : World} {A : Option Addr} {l : List FE} (h : RdP w A l) (e : Ext w w') : RdP w' A l := ⟨RdS.from e h.top, fun x hx => RdS.from e (h.code x hx)⟩
theorem rd_some {α : Type} {enc : α → List Value} {sz : Nat} {w : World} {A : Option Addr} {l : List α} (h : RdS enc sz w A l) (hn : l ≠ []) : ∃ a, A = some a := by
  unfold RdS at h
  have := (h.some hn).1
  cases A with
  | none => exact absurd rfl this
  | some a => exact ⟨a, rfl⟩
def parOf (fs : List Fn) (b : Int) : Int := ((fs[b.toNat]?).map Fn.params).getD 0
def calledB (fs : List Fn) (f : Fn) (x : Ins) : Bool := if x.kd = 5 then belowB x.b fs.length && (decide (parOf fs x.b = 0) || (belowB x.c f.regs && decide (parOf fs x.b ≤ f.regs - x.c))) else true
theorem fns_len (l : List FE) : (fns l).length = l.length := by simp [fns]
theorem parOf_at {l : List FE} {b : Int} {k : Nat} {y : FE} (hb : b = k) (hy : l[k]? = some y) : parOf (fns l) b = y.1.params := by
  simp [parOf, fns, hb, hy]
theorem called_c (f : Fn) (A : Option Addr) (c : Nat) (x : Ins) (B : Option Addr) (l : List FE) (d : Nat) (w : World) (hB : RdS FE.enc 4 w B l) (hr : 1 ≤ f.regs ∧ f.regs ≤ 16) :
    Cl Tryd.prog 61 #[pv B l.length d, f.v A c, x.v] w (fun v w' => v = .bool (calledB (fns l) f x) ∧ Ext w w') (fun _ _ => False) := by
  refine calls_ex (args := [pv B l.length d, f.v A c, x.v]) T.ok Tryd.func61 rfl rfl rfl rfl ?_
  have H := Hp.begin nw w
  by_cases h5 : x.kd = 5
  · by_cases hb : 0 ≤ x.b ∧ x.b < l.length
    · obtain ⟨k, hk⟩ : ∃ k : Nat, x.b = k := ⟨x.b.toNat, by omega⟩
      have hkl : k < l.length := by omega
      obtain ⟨y, hy⟩ : ∃ y, l[k]? = some y := ⟨_, List.getElem?_eq_getElem hkl⟩
      have hp := parOf_at hk hy
      have hbl : belowB x.b (l.length : Int) = true := by simp [belowB]; omega
      have hw : belowB x.c f.regs = true → IntKind.i64.wrap (f.regs - x.c) = f.regs - x.c := fun h => by
        simp only [belowB, decide_eq_true_eq] at h
        exact w64 rfl (by omega) (by omega)
      repeat' (first | ((conv => whnf); first | (((with_reducible show Gd _ _ _); first | with_reducible refine Gd.t ?_ | with_reducible refine Gd.f ?_ | with_reducible refine Gd.dec (fun _ => ?_) (fun _ => ?_) | with_reducible refine Gd.beq (fun _ => ?_) (fun _ => ?_) | with_reducible refine Gd.bne (fun _ => ?_) (fun _ => ?_) | with_reducible refine Gd.not ?_ | refine Gd.t ?_ | refine Gd.f ?_ | with_reducible refine Gd.var (fun _ => ?_) (fun _ => ?_)) <;> first | (exfalso; omega) | skip) | with_reducible refine Sq.mk ?_ | ((with_reducible show Ld1 _ _ _); first | refine Ld1.h H ?_ | refine Ld1.rF ?_ | refine Ld1.r ?_) | ((with_reducible show Ld _ _ _ _); first | refine Ld.h H ?_ | refine Ld.r ?_) | ((with_reducible show Ix _ _ _ _ _); (first | refine Ix.h ?_ | refine Ix.ha ?_)) | (refine Al.hp H ?_; clear H; intro _ _ H _) | (refine St.h H ?_; clear H; intro _ H)) | (((conv => whnf); refine Cl.mk (below_c _ _ _) ?_); rintro _ _ ⟨rfl, hx⟩; replace H := H.ext hx; clear hx))
      all_goals first | (exfalso; simp_all; done) | skip
      all_goals refine ⟨b_eq ?_, H.e⟩
      all_goals simp only [calledB, h5, if_true, fns_len, hbl, hp, Bool.true_and]
      all_goals simp_all
    · repeat' (first | ((conv => whnf); first | (((with_reducible show Gd _ _ _); first | with_reducible refine Gd.t ?_ | with_reducible refine Gd.f ?_ | with_reducible refine Gd.dec (fun _ => ?_) (fun _ => ?_) | with_reducible refine Gd.beq (fun _ => ?_) (fun _ => ?_) | with_reducible refine Gd.bne (fun _ => ?_) (fun _ => ?_) | with_reducible refine Gd.not ?_ | refine Gd.t ?_ | refine Gd.f ?_ | with_reducible refine Gd.var (fun _ => ?_) (fun _ => ?_)) <;> first | (exfalso; omega) | skip) | with_reducible refine Sq.mk ?_ | ((with_reducible show Ld1 _ _ _); first | refine Ld1.h H ?_ | refine Ld1.rF ?_ | refine Ld1.r ?_) | ((with_reducible show Ld _ _ _ _); first | refine Ld.h H ?_ | refine Ld.r ?_) | ((with_reducible show Ix _ _ _ _ _); (first | refine Ix.h ?_ | refine Ix.ha ?_)) | (refine Al.hp H ?_; clear H; intro _ _ H _) | (refine St.h H ?_; clear H; intro _ H)) | (((conv => whnf); refine Cl.mk (below_c _ _ _) ?_); rintro _ _ ⟨rfl, hx⟩; replace H := H.ext hx; clear hx))
      all_goals first | (exfalso; simp only [belowB, decide_eq_true_eq] at *; omega) | skip
      all_goals refine ⟨b_eq ?_, H.e⟩
      all_goals simp only [calledB, h5, if_true, fns_len]
      all_goals simp_all
  · repeat' (first | ((conv => whnf); first | (((with_reducible show Gd _ _ _); first | with_reducible refine Gd.t ?_ | with_reducible refine Gd.f ?_ | with_reducible refine Gd.dec (fun _ => ?_) (fun _ => ?_) | with_reducible refine Gd.beq (fun _ => ?_) (fun _ => ?_) | with_reducible refine Gd.bne (fun _ => ?_) (fun _ => ?_) | with_reducible refine Gd.not ?_ | refine Gd.t ?_ | refine Gd.f ?_ | with_reducible refine Gd.var (fun _ => ?_) (fun _ => ?_)) <;> first | (exfalso; omega) | skip) | with_reducible refine Sq.mk ?_ | ((with_reducible show Ld1 _ _ _); first | refine Ld1.h H ?_ | refine Ld1.rF ?_ | refine Ld1.r ?_) | ((with_reducible show Ld _ _ _ _); first | refine Ld.h H ?_ | refine Ld.r ?_) | ((with_reducible show Ix _ _ _ _ _); (first | refine Ix.h ?_ | refine Ix.ha ?_)) | (refine Al.hp H ?_; clear H; intro _ _ H _) | (refine St.h H ?_; clear H; intro _ H)) | (((conv => whnf); refine Cl.mk (below_c _ _ _) ?_); rintro _ _ ⟨rfl, hx⟩; replace H := H.ext hx; clear hx))
    all_goals exact ⟨b_eq (by simp [calledB, h5]), H.e⟩
theorem alone_rows2 {f : Fn} {x : Ins} {k : Nat} {n : Int} (hn : 0 ≤ n) (hk : x.kd = k) (h10 : k < 10) :
    (aloneB f x && (if k = 5 then belowB x.b n else true)) = (fitsB (rowOf k).a x.a f n && fitsB (rowOf k).b x.b f n && fitsB (rowOf k).c x.c f n && (if (rowOf k).k = 5 then decide (0 ≤ x.k ∧ x.k < 16) else true)) := by
  unfold aloneB
  have hn' : ¬ n < 0 := by omega
  have : k = 0 ∨ k = 1 ∨ k = 2 ∨ k = 3 ∨ k = 4 ∨ k = 5 ∨ k = 6 ∨ k = 7 ∨ k = 8 ∨ k = 9 := by omega
  rcases this with rfl | rfl | rfl | rfl | rfl | rfl | rfl | rfl | rfl | rfl <;> rw [hk] <;> simp [fitsB, rowOf, hn']
set_option maxHeartbeats 1000000 in
theorem instrOK_all (f : Fn) (A : Option Addr) (c : Nat) (x : Ins) (B : Option Addr) (l : List FE) (d : Nat) (w : World) (hG : RdG w) (hB : RdS FE.enc 4 w B l) (hne : l ≠ []) (hll : l.length ≤ 32) (hr : 1 ≤ f.regs ∧ f.regs ≤ 16) (hs : ∀ y ∈ l, 0 ≤ y.1.params ∧ y.1.params ≤ 8) :
    Cl Tryd.prog 76 #[x.v, f.v A c, .slice B l.length d] w (fun v w' => v = .bool (aloneB f x && calledB (fns l) f x) ∧ Ext w w') (fun _ _ => False) := by
  obtain ⟨b0, rfl⟩ := rd_some hB hne
  by_cases hr0 : x.kd < 0 ∨ 10 ≤ x.kd
  · have ha := instr_range (f := f) hr0
    refine calls_ex (args := [x.v, f.v A c, .slice (some b0) l.length d]) T.ok Tryd.func76 rfl rfl rfl rfl ?_
    have H := Hp.begin nw w
    repeat' ((conv => whnf); first | (((with_reducible show Gd _ _ _); first | with_reducible refine Gd.t ?_ | with_reducible refine Gd.f ?_ | with_reducible refine Gd.dec (fun _ => ?_) (fun _ => ?_) | with_reducible refine Gd.beq (fun _ => ?_) (fun _ => ?_) | with_reducible refine Gd.bne (fun _ => ?_) (fun _ => ?_) | with_reducible refine Gd.not ?_ | refine Gd.t ?_ | refine Gd.f ?_ | with_reducible refine Gd.var (fun _ => ?_) (fun _ => ?_)) <;> first | (exfalso; omega) | skip) | with_reducible refine Sq.mk ?_ | ((with_reducible show Ld1 _ _ _); first | refine Ld1.h H ?_ | refine Ld1.rF ?_ | refine Ld1.r ?_) | ((with_reducible show Ld _ _ _ _); first | refine Ld.h H ?_ | refine Ld.r ?_) | ((with_reducible show Ix _ _ _ _ _); (first | refine Ix.h ?_ | refine Ix.ha ?_)) | (refine Al.hp H ?_; clear H; intro _ _ H _) | (refine St.h H ?_; clear H; intro _ H))
    all_goals first | (exfalso; omega) | exact ⟨b_eq (by rw [ha]; rfl), H.e⟩
  · obtain ⟨k, hk, hk10⟩ : ∃ k : Nat, x.kd = k ∧ k < 10 := ⟨x.kd.toNat, by omega, by omega⟩
    have hrow : rows10[k]? = some (rowOf k) := by simp [rows10, hk10]
    have hr10 : rows10.length = 10 := rfl
    have hrows := alone_rows2 (f := f) (x := x) (n := (l.length : Int)) (by omega) hk hk10
    refine calls_ex (args := [x.v, f.v A c, .slice (some b0) l.length d]) T.ok Tryd.func76 rfl rfl rfl rfl ?_
    have H := Hp.begin nw w
    by_cases h5 : k = 5
    · subst h5
      have hkd : x.kd = 5 := hk
      have hrow5 : (rowOf 5).k = 0 := rfl
      by_cases hb : 0 ≤ x.b ∧ x.b < l.length
      · obtain ⟨j, hj⟩ : ∃ k : Nat, x.b = k := ⟨x.b.toNat, by omega⟩
        have hjl : j < l.length := by omega
        obtain ⟨y, hy⟩ : ∃ y, l[j]? = some y := ⟨_, List.getElem?_eq_getElem hjl⟩
        have hp := parOf_at hj hy
        have hy8 := hs y (List.mem_of_getElem? hy)
        have hbl : belowB x.b (l.length : Int) = true := by simp [belowB]; omega
        have hw : IntKind.i64.wrap (f.regs - y.1.params) = f.regs - y.1.params := w64 rfl (by omega) (by omega)
        have hcf : fitsB (rowOf 5).c x.c f l.length = true := rfl
        have hA : aloneB f x = (fitsB (rowOf 5).a x.a f l.length && fitsB (rowOf 5).b x.b f l.length && fitsB (rowOf 5).c x.c f l.length) := by
          rw [if_pos rfl, hbl, Bool.and_true] at hrows
          rw [hrows, if_neg (by rw [hrow5]; decide), Bool.and_true]
        repeat' (first | ((conv => whnf); first | (((with_reducible show Gd _ _ _); first | with_reducible refine Gd.t ?_ | with_reducible refine Gd.f ?_ | with_reducible refine Gd.dec (fun _ => ?_) (fun _ => ?_) | with_reducible refine Gd.beq (fun _ => ?_) (fun _ => ?_) | with_reducible refine Gd.bne (fun _ => ?_) (fun _ => ?_) | with_reducible refine Gd.not ?_ | refine Gd.t ?_ | refine Gd.f ?_ | with_reducible refine Gd.var (fun _ => ?_) (fun _ => ?_)) <;> first | (exfalso; omega) | skip) | with_reducible refine Sq.mk ?_ | ((with_reducible show Ld1 _ _ _); first | refine Ld1.h H ?_ | refine Ld1.rF ?_ | refine Ld1.r ?_) | ((with_reducible show Ld _ _ _ _); first | refine Ld.h H ?_ | refine Ld.r ?_) | ((with_reducible show Ix _ _ _ _ _); (first | refine Ix.h ?_ | refine Ix.ha ?_)) | (refine Al.hp H ?_; clear H; intro _ _ H _) | (refine St.h H ?_; clear H; intro _ H)) | (((conv => whnf); refine Cl.mk (fits_c _ _ _ _ _ _ _) ?_); rintro _ _ ⟨rfl, hx⟩; replace H := H.ext hx; clear hx))
        all_goals first | (exfalso; omega) | skip
        all_goals
          refine ⟨b_eq ?_, H.e⟩
          rw [hA]
          simp only [calledB, hkd, if_true, fns_len, hbl, hp, Bool.true_and]
          first | (simp only [(by assumption : fitsB (rowOf 5).a x.a f l.length = true), (by assumption : fitsB (rowOf 5).b x.b f l.length = true), hcf, Bool.true_and, belowB]; rw [Bool.eq_iff_iff]; simp only [decide_eq_true_eq, Bool.or_eq_true, Bool.and_eq_true, hw, true_iff]; omega) | (simp_all [belowB]; done) | (simp_all [belowB]; omega)
      · have hbl : belowB x.b (l.length : Int) = false := by simp only [belowB, decide_eq_false_iff_not]; exact hb
        have hf : fitsB (rowOf 5).b x.b f l.length = false := by
          have : ¬ (l.length : Int) < 0 := by omega
          simp only [fitsB, rowOf]
          simp [this, hbl]
        repeat' (first | ((conv => whnf); first | (((with_reducible show Gd _ _ _); first | with_reducible refine Gd.t ?_ | with_reducible refine Gd.f ?_ | with_reducible refine Gd.dec (fun _ => ?_) (fun _ => ?_) | with_reducible refine Gd.beq (fun _ => ?_) (fun _ => ?_) | with_reducible refine Gd.bne (fun _ => ?_) (fun _ => ?_) | with_reducible refine Gd.not ?_ | refine Gd.t ?_ | refine Gd.f ?_ | with_reducible refine Gd.var (fun _ => ?_) (fun _ => ?_)) <;> first | (exfalso; omega) | skip) | with_reducible refine Sq.mk ?_ | ((with_reducible show Ld1 _ _ _); first | refine Ld1.h H ?_ | refine Ld1.rF ?_ | refine Ld1.r ?_) | ((with_reducible show Ld _ _ _ _); first | refine Ld.h H ?_ | refine Ld.r ?_) | ((with_reducible show Ix _ _ _ _ _); (first | refine Ix.h ?_ | refine Ix.ha ?_)) | (refine Al.hp H ?_; clear H; intro _ _ H _) | (refine St.h H ?_; clear H; intro _ H)) | (((conv => whnf); refine Cl.mk (fits_c _ _ _ _ _ _ _) ?_); rintro _ _ ⟨rfl, hx⟩; replace H := H.ext hx; clear hx))
        all_goals first | (exfalso; simp_all; done) | skip
        all_goals
          refine ⟨b_eq ?_, H.e⟩
          simp [calledB, hkd, fns_len, hbl]
    · have hA : aloneB f x = (fitsB (rowOf k).a x.a f l.length && fitsB (rowOf k).b x.b f l.length && fitsB (rowOf k).c x.c f l.length && (if (rowOf k).k = 5 then decide (0 ≤ x.k ∧ x.k < 16) else true)) := by
        rw [if_neg h5, Bool.and_true] at hrows
        exact hrows
      have hkd : ¬ x.kd = 5 := by omega
      have hC : calledB (fns l) f x = true := by simp [calledB, hkd]
      repeat' (first | ((conv => whnf); first | (((with_reducible show Gd _ _ _); first | with_reducible refine Gd.t ?_ | with_reducible refine Gd.f ?_ | with_reducible refine Gd.dec (fun _ => ?_) (fun _ => ?_) | with_reducible refine Gd.beq (fun _ => ?_) (fun _ => ?_) | with_reducible refine Gd.bne (fun _ => ?_) (fun _ => ?_) | with_reducible refine Gd.not ?_ | refine Gd.t ?_ | refine Gd.f ?_ | with_reducible refine Gd.var (fun _ => ?_) (fun _ => ?_)) <;> first | (exfalso; omega) | skip) | with_reducible refine Sq.mk ?_ | ((with_reducible show Ld1 _ _ _); first | refine Ld1.h H ?_ | refine Ld1.rF ?_ | refine Ld1.r ?_) | ((with_reducible show Ld _ _ _ _); first | refine Ld.h H ?_ | refine Ld.r ?_) | ((with_reducible show Ix _ _ _ _ _); (first | refine Ix.h ?_ | refine Ix.ha ?_)) | (refine Al.hp H ?_; clear H; intro _ _ H _) | (refine St.h H ?_; clear H; intro _ H)) | (((conv => whnf); refine Cl.mk (fits_c _ _ _ _ _ _ _) ?_); rintro _ _ ⟨rfl, hx⟩; replace H := H.ext hx; clear hx))
      all_goals first | (exfalso; omega) | skip
      all_goals
        refine ⟨b_eq ?_, H.e⟩
        rw [hA, hC, Bool.and_true]
        first | (simp_all; done) | (simp_all; omega)
/-- what one place of a function does wrong to the slots, by their row -/
def rowFault (x : Ins) (row : List Int) : Int :=
  if x.kd = 5 then (if bitand (row[x.a.toNat]?.getD 0) 2 ≠ 0 then 54 else 0)
  else if x.kd = 7 then (if bitand (row[x.b.toNat]?.getD 0) 3 ≠ 0 then 55 else 0)
  else if x.kd = 9 then (if row.any (fun m => decide (bitand m 2 ≠ 0)) then 56 else 0) else 0
theorem any_step {l : List Int} {p : Int → Bool} {i : Nat} {x : Int} (h : l[i]? = some x) : (l.take (i + 1)).any p = ((l.take i).any p || p x) := by
  obtain ⟨h1, h2⟩ := List.getElem?_eq_some_iff.1 h
  rw [List.take_succ_eq_append_getElem h1, List.any_append, h2]; simp
theorem slotFault_c (x : Ins) (q : Option Addr) (row : List Int) (c : Nat) (w : World) (hq : RdS ints 1 w q row) (hl : row.length ≤ 8) (ha : x.kd = 5 → 0 ≤ x.a ∧ x.a < row.length) (hb : x.kd = 7 → 0 ≤ x.b ∧ x.b < row.length) :
    Cl Tryd.prog 63 #[x.v, .slice q row.length c] w (fun v w' => v = .int .i64 (rowFault x row) ∧ Ext w w') (fun _ _ => False) := by
  refine calls_ex (args := [x.v, .slice q row.length c]) T.ok Tryd.func63 rfl rfl rfl rfl ?_
  have H := Hp.begin nw w
  refine Sq.mk ?_
  ((conv => whnf); refine Al.hp H ?_; clear H; intro pf _ H _)
  by_cases h5 : x.kd = 5
  · obtain ⟨k, hk⟩ : ∃ k : Nat, x.a = k := ⟨x.a.toNat, by have := ha h5; omega⟩
    have hkl : k < row.length := by have := ha h5; omega
    obtain ⟨y, hy⟩ : ∃ y, row[k]? = some y := ⟨_, List.getElem?_eq_getElem hkl⟩
    have hg : row[x.a.toNat]?.getD 0 = y := by rw [hk]; simp [hy]
    repeat' ((conv => whnf); first | (((with_reducible show Gd _ _ _); first | with_reducible refine Gd.t ?_ | with_reducible refine Gd.f ?_ | with_reducible refine Gd.dec (fun _ => ?_) (fun _ => ?_) | with_reducible refine Gd.beq (fun _ => ?_) (fun _ => ?_) | with_reducible refine Gd.bne (fun _ => ?_) (fun _ => ?_) | with_reducible refine Gd.not ?_ | refine Gd.t ?_ | refine Gd.f ?_ | with_reducible refine Gd.var (fun _ => ?_) (fun _ => ?_)) <;> first | (exfalso; omega) | skip) | with_reducible refine Sq.mk ?_ | ((with_reducible show Ld1 _ _ _); first | refine Ld1.h H ?_ | refine Ld1.rF ?_ | refine Ld1.r ?_) | ((with_reducible show Ld _ _ _ _); first | refine Ld.h H ?_ | refine Ld.r ?_) | ((with_reducible show Ix _ _ _ _ _); (first | refine Ix.h ?_ | refine Ix.ha ?_)) | (refine Al.hp H ?_; clear H; intro _ _ H _) | (refine St.h H ?_; clear H; intro _ H))
    all_goals first | (exfalso; omega) | skip
    all_goals
      refine ⟨i_eq ?_, H.e⟩
      simp only [rowFault, h5, if_true, hg]
      first | exact (if_pos (by assumption)).symm | exact (if_neg (fun hne => hne (by assumption))).symm
  · by_cases h7 : x.kd = 7
    · obtain ⟨k, hk⟩ : ∃ k : Nat, x.b = k := ⟨x.b.toNat, by have := hb h7; omega⟩
      have hkl : k < row.length := by have := hb h7; omega
      obtain ⟨y, hy⟩ : ∃ y, row[k]? = some y := ⟨_, List.getElem?_eq_getElem hkl⟩
      have hg : row[x.b.toNat]?.getD 0 = y := by rw [hk]; simp [hy]
      repeat' ((conv => whnf); first | (((with_reducible show Gd _ _ _); first | with_reducible refine Gd.t ?_ | with_reducible refine Gd.f ?_ | with_reducible refine Gd.dec (fun _ => ?_) (fun _ => ?_) | with_reducible refine Gd.beq (fun _ => ?_) (fun _ => ?_) | with_reducible refine Gd.bne (fun _ => ?_) (fun _ => ?_) | with_reducible refine Gd.not ?_ | refine Gd.t ?_ | refine Gd.f ?_ | with_reducible refine Gd.var (fun _ => ?_) (fun _ => ?_)) <;> first | (exfalso; omega) | skip) | with_reducible refine Sq.mk ?_ | ((with_reducible show Ld1 _ _ _); first | refine Ld1.h H ?_ | refine Ld1.rF ?_ | refine Ld1.r ?_) | ((with_reducible show Ld _ _ _ _); first | refine Ld.h H ?_ | refine Ld.r ?_) | ((with_reducible show Ix _ _ _ _ _); (first | refine Ix.h ?_ | refine Ix.ha ?_)) | (refine Al.hp H ?_; clear H; intro _ _ H _) | (refine St.h H ?_; clear H; intro _ H))
      all_goals first | (exfalso; omega) | skip
      all_goals
        refine ⟨i_eq ?_, H.e⟩
        simp only [rowFault, h5, h7, if_true, if_false, hg]
        first | exact (if_pos (by assumption)).symm | exact (if_neg (fun hne => hne (by assumption))).symm
    · by_cases h9 : x.kd = 9
      · repeat' ((conv => whnf); first | (((with_reducible show Gd _ _ _); first | with_reducible refine Gd.t ?_ | with_reducible refine Gd.f ?_ | with_reducible refine Gd.dec (fun _ => ?_) (fun _ => ?_) | with_reducible refine Gd.beq (fun _ => ?_) (fun _ => ?_) | with_reducible refine Gd.bne (fun _ => ?_) (fun _ => ?_) | with_reducible refine Gd.not ?_ | refine Gd.t ?_ | refine Gd.f ?_ | with_reducible refine Gd.var (fun _ => ?_) (fun _ => ?_)) <;> first | (exfalso; omega) | skip) | with_reducible refine Sq.mk ?_ | ((with_reducible show Ld1 _ _ _); first | refine Ld1.h H ?_ | refine Ld1.rF ?_ | refine Ld1.r ?_) | ((with_reducible show Ld _ _ _ _); first | refine Ld.h H ?_ | refine Ld.r ?_) | ((with_reducible show Ix _ _ _ _ _); (first | refine Ix.h ?_ | refine Ix.ha ?_)) | (refine Al.hp H ?_; clear H; intro _ _ H _) | (refine St.h H ?_; clear H; intro _ H))
        all_goals first | (exfalso; omega) | skip
        refine Lp.g0 T.ok (σ := Nat) (fun i => [(5, .int .i64 (i : Int)), (1, .slice q row.length c), (2, .pointer (some ⟨pf, 0, none⟩))])
          (fun i w' => i ≤ row.length ∧ (row.take i).any (fun m => decide (bitand m 2 ≠ 0)) = false ∧ Hp nw w w' [bk pf 35 x.v.cells.toList]) (fun i _ => row.length - i) 0 rfl ⟨rfl, rfl, rfl, trivial⟩ ⟨Nat.zero_le _, by simp, H⟩ ?_
        clear H
        rintro i w5 ⟨hi, hany, H⟩
        by_cases hlt : i < row.length
        · obtain ⟨y, hy⟩ : ∃ y, row[i]? = some y := ⟨_, List.getElem?_eq_getElem hlt⟩
          have hst := any_step (p := fun m => decide (bitand m 2 ≠ 0)) hy
          have hq5 := RdS.from H.e hq
          repeat' ((conv => whnf); first | (((with_reducible show Gd _ _ _); first | with_reducible refine Gd.t ?_ | with_reducible refine Gd.f ?_ | with_reducible refine Gd.dec (fun _ => ?_) (fun _ => ?_) | with_reducible refine Gd.beq (fun _ => ?_) (fun _ => ?_) | with_reducible refine Gd.bne (fun _ => ?_) (fun _ => ?_) | with_reducible refine Gd.not ?_ | refine Gd.t ?_ | refine Gd.f ?_ | with_reducible refine Gd.var (fun _ => ?_) (fun _ => ?_)) <;> first | (exfalso; omega) | skip) | with_reducible refine Sq.mk ?_ | ((with_reducible show Ld1 _ _ _); first | refine Ld1.h H ?_ | refine Ld1.rF ?_ | refine Ld1.r ?_) | ((with_reducible show Ld _ _ _ _); first | refine Ld.h H ?_ | refine Ld.r ?_) | ((with_reducible show Ix _ _ _ _ _); (first | refine Ix.h ?_ | refine Ix.ha ?_)) | (refine Al.hp H ?_; clear H; intro _ _ H _) | (refine St.h H ?_; clear H; intro _ H))
          · refine ⟨i_eq ?_, H.e⟩
            have : row.any (fun m => decide (bitand m 2 ≠ 0)) = true := List.any_eq_true.2 ⟨y, List.mem_of_getElem? hy, decide_eq_true (by assumption)⟩
            rw [rowFault, if_neg h5, if_neg h7, if_pos h9, if_pos this]
          · refine ⟨i + 1, ⟨at_int (m := ((i + 1 : Nat) : Int)) rfl (w64 (by simp) (by omega) (by omega)), rfl, rfl, trivial⟩, rfl, ⟨by omega, ?_, H⟩, by omega⟩
            rw [hst, hany, Bool.false_or]
            exact decide_eq_false (fun hne => hne (by assumption))
        · have hi : i = row.length := by omega
          subst hi
          rw [List.take_length] at hany
          repeat' ((conv => whnf); first | (((with_reducible show Gd _ _ _); first | with_reducible refine Gd.t ?_ | with_reducible refine Gd.f ?_ | with_reducible refine Gd.dec (fun _ => ?_) (fun _ => ?_) | with_reducible refine Gd.beq (fun _ => ?_) (fun _ => ?_) | with_reducible refine Gd.bne (fun _ => ?_) (fun _ => ?_) | with_reducible refine Gd.not ?_ | refine Gd.t ?_ | refine Gd.f ?_ | with_reducible refine Gd.var (fun _ => ?_) (fun _ => ?_)) <;> first | (exfalso; omega) | skip) | with_reducible refine Sq.mk ?_ | ((with_reducible show Ld1 _ _ _); first | refine Ld1.h H ?_ | refine Ld1.rF ?_ | refine Ld1.r ?_) | ((with_reducible show Ld _ _ _ _); first | refine Ld.h H ?_ | refine Ld.r ?_) | ((with_reducible show Ix _ _ _ _ _); (first | refine Ix.h ?_ | refine Ix.ha ?_)) | (refine Al.hp H ?_; clear H; intro _ _ H _) | (refine St.h H ?_; clear H; intro _ H))
          exact ⟨i_eq (by rw [rowFault, if_neg h5, if_neg h7, if_pos h9, hany]; rfl), H.e⟩
      · repeat' ((conv => whnf); first | (((with_reducible show Gd _ _ _); first | with_reducible refine Gd.t ?_ | with_reducible refine Gd.f ?_ | with_reducible refine Gd.dec (fun _ => ?_) (fun _ => ?_) | with_reducible refine Gd.beq (fun _ => ?_) (fun _ => ?_) | with_reducible refine Gd.bne (fun _ => ?_) (fun _ => ?_) | with_reducible refine Gd.not ?_ | refine Gd.t ?_ | refine Gd.f ?_ | with_reducible refine Gd.var (fun _ => ?_) (fun _ => ?_)) <;> first | (exfalso; omega) | skip) | with_reducible refine Sq.mk ?_ | ((with_reducible show Ld1 _ _ _); first | refine Ld1.h H ?_ | refine Ld1.rF ?_ | refine Ld1.r ?_) | ((with_reducible show Ld _ _ _ _); first | refine Ld.h H ?_ | refine Ld.r ?_) | ((with_reducible show Ix _ _ _ _ _); (first | refine Ix.h ?_ | refine Ix.ha ?_)) | (refine Al.hp H ?_; clear H; intro _ _ H _) | (refine St.h H ?_; clear H; intro _ H))
        all_goals first | (exfalso; omega) | skip
        all_goals exact ⟨i_eq (by simp [rowFault, h5, h7, h9]), H.e⟩
end Go.Proofs.YtbbadmlekagloaaDoor
namespace Go.Proofs.YtbbadmlekagloaaDoor
open Go Go.Sh
set_option linter.unusedVariables false
set_option linter.unusedSimpArgs false
attribute [local irreducible] Blk Ext RdS
/-- the first that answers, with its number -/
def fs1 {α β : Type} (g : Nat → α → Option β) : List α → Nat → Option (Nat × β)
  | [], _ => none
  | x :: r, i => match g i x with
    | some b => some (i, b)
    | none => fs1 g r (i + 1)
theorem fs1_yes {α β : Type} {g : Nat → α → Option β} {l : List α} {i j : Nat} {x : α} {b : β} (h : l[i]? = some x) (hg : g j x = some b) : fs1 g (l.drop i) j = some (j, b) := by
  obtain ⟨h1, h2⟩ := List.getElem?_eq_some_iff.1 h
  rw [List.drop_eq_getElem_cons h1, h2]
  simp [fs1, hg]
theorem fs1_no {α β : Type} {g : Nat → α → Option β} {l : List α} {i j : Nat} {x : α} (h : l[i]? = some x) (hg : g j x = none) : fs1 g (l.drop i) j = fs1 g (l.drop (i + 1)) (j + 1) := by
  obtain ⟨h1, h2⟩ := List.getElem?_eq_some_iff.1 h
  rw [List.drop_eq_getElem_cons h1, h2]
  simp [fs1, hg]
theorem fs1_end {α β : Type} {g : Nat → α → Option β} {l : List α} {i : Nat} (h : l.length ≤ i) (j : Nat) : fs1 g (l.drop i) j = none := by
  rw [List.drop_of_length_le h]; rfl
def insG (fs : List Fn) (f : Fn) (_ : Nat) (c : Ins) : Option Unit := if aloneB f c && calledB fs f c then none else some ()
def ins1 (fs : List Fn) (f : Fn) : Option (Int × Nat) := match fs1 (insG fs f) f.code 0 with
  | some (k, _) => some (52, k)
  | none => if endsB f then none else some (53, f.code.length - 1)
noncomputable def slotG (f : Fn) (k : Nat) (c : Ins) : Option Int := if rowFault c (rowL f.slots.toNat (flwG f k)) = 0 then none else some (rowFault c (rowL f.slots.toNat (flwG f k)))
noncomputable def slot1 (f : Fn) : Option (Int × Nat) := (fs1 (slotG f) f.code 0).map fun x => (x.2, x.1)
/-- what Check answers: the error, the function, the place -/
noncomputable def checkL (fs : List Fn) : Int × Nat × Nat :=
  if fs.length < 1 ∨ 32 < fs.length then (50, 0, 0) else
  match fs1 (fun _ f => if shapedB f then none else some ()) fs 0 with
  | some (i, _) => (51, i, 0)
  | none => match fs1 (fun _ f => ins1 fs f) fs 0 with
    | some (i, e, k) => (e, i, k)
    | none => match fs1 (fun _ f => slot1 f) fs 0 with
      | some (i, e, k) => (e, i, k)
      | none => (0, 0, 0)
def fv3 (e : Int) (i k : Nat) : Value := .agg #[.int .i64 e, .int .i64 i, .int .i64 k]
def fvV (x : Int × Nat × Nat) : Value := fv3 x.1 x.2.1 x.2.2
theorem instructions_c (n : Nat) (f : Fn) (A : Option Addr) (c : Nat) (B : Option Addr) (l : List FE) (d : Nat) (w : World) (hG : RdG w) (hA : RdC w A f.code) (hB : RdS FE.enc 4 w B l) (hne : l ≠ []) (hll : l.length ≤ 32) (hf : shapedB f = true) (hs : ∀ y ∈ l, 0 ≤ y.1.params ∧ y.1.params ≤ 8) :
    Cl Tryd.prog 66 #[.int .i64 (n : Int), f.v A c, .slice B l.length d] w (fun _ w' => ins1 (fns l) f = none ∧ Ext w w')
      (fun ch w' => ∃ e k, ins1 (fns l) f = some (e, k) ∧ ch = [{ v := .iface 92 (fv3 e n k), recovered := false }] ∧ Ext w w') := by
  obtain ⟨hl1, hl2⟩ := shaped_len hf
  have hr : 1 ≤ f.regs ∧ f.regs ≤ 16 := by simp only [shapedB, decide_eq_true_eq] at hf; omega
  have hwl : IntKind.i64.wrap ((f.code.length : Int) - 1) = ((f.code.length - 1 : Nat) : Int) := w64 (by omega) (by omega) (by omega)
  refine calls_ex (args := [.int .i64 (n : Int), f.v A c, .slice B l.length d]) T.ok Tryd.func66 rfl rfl rfl rfl ?_
  have H := Hp.begin nw w
  refine Sq.mk ?_
  ((conv => whnf); refine Al.hp H ?_; clear H; intro pf _ H _)
  repeat' ((conv => whnf); first | (((with_reducible show Gd _ _ _); first | with_reducible refine Gd.t ?_ | with_reducible refine Gd.f ?_ | with_reducible refine Gd.dec (fun _ => ?_) (fun _ => ?_) | with_reducible refine Gd.beq (fun _ => ?_) (fun _ => ?_) | with_reducible refine Gd.bne (fun _ => ?_) (fun _ => ?_) | with_reducible refine Gd.not ?_ | refine Gd.t ?_ | refine Gd.f ?_ | with_reducible refine Gd.var (fun _ => ?_) (fun _ => ?_)) <;> first | (exfalso; omega) | skip) | with_reducible refine Sq.mk ?_ | ((with_reducible show Ld1 _ _ _); first | refine Ld1.h H ?_ | refine Ld1.rF ?_ | refine Ld1.r ?_) | ((with_reducible show Ld _ _ _ _); first | refine Ld.h H ?_ | refine Ld.r ?_) | ((with_reducible show Ix _ _ _ _ _); (first | refine Ix.h ?_ | refine Ix.ha ?_)) | (refine Al.hp H ?_; clear H; intro _ _ H _) | (refine St.h H ?_; clear H; intro _ H))
  refine Lp.g0 T.ok (σ := Nat) (fun i => [(11, .int .i64 (i : Int)), (10, .int .i64 (f.code.length : Int)), (9, .slice A f.code.length c), (4, .pointer (some ⟨pf, 0, none⟩)), (2, .slice B l.length d), (0, .int .i64 (n : Int))])
    (fun i w' => i ≤ f.code.length ∧ fs1 (insG (fns l) f) f.code 0 = fs1 (insG (fns l) f) (f.code.drop i) i ∧ Hp nw w w' [bk pf 24 (f.v A c).cells.toList]) (fun i _ => f.code.length - i) 0 rfl ⟨rfl, rfl, rfl, rfl, rfl, rfl, trivial⟩ ⟨Nat.zero_le _, rfl, H⟩ ?_
  clear H
  rintro i w5 ⟨hi, hfs, H⟩
  by_cases hlt : i < f.code.length
  · obtain ⟨x, hx⟩ : ∃ x, f.code[i]? = some x := ⟨_, List.getElem?_eq_getElem hlt⟩
    have hA5 := RdS.from H.e hA
    repeat' (first | ((conv => whnf); first | (((with_reducible show Gd _ _ _); first | with_reducible refine Gd.t ?_ | with_reducible refine Gd.f ?_ | with_reducible refine Gd.dec (fun _ => ?_) (fun _ => ?_) | with_reducible refine Gd.beq (fun _ => ?_) (fun _ => ?_) | with_reducible refine Gd.bne (fun _ => ?_) (fun _ => ?_) | with_reducible refine Gd.not ?_ | refine Gd.t ?_ | refine Gd.f ?_ | with_reducible refine Gd.var (fun _ => ?_) (fun _ => ?_)) <;> first | (exfalso; omega) | skip) | with_reducible refine Sq.mk ?_ | ((with_reducible show Ld1 _ _ _); first | refine Ld1.h H ?_ | refine Ld1.rF ?_ | refine Ld1.r ?_) | ((with_reducible show Ld _ _ _ _); first | refine Ld.h H ?_ | refine Ld.r ?_) | ((with_reducible show Ix _ _ _ _ _); (first | refine Ix.h ?_ | refine Ix.ha ?_)) | (refine Al.hp H ?_; clear H; intro _ _ H _) | (refine St.h H ?_; clear H; intro _ H)) | (((conv => whnf); refine Cl.mk (instrOK_all f A c x B l d _ (RdS.from H.e hG) (RdS.from H.e hB) hne hll hr hs) ?_); rintro _ _ ⟨rfl, hx⟩; replace H := H.ext hx; clear hx))
    · rename_i hb
      have hg : insG (fns l) f i x = none := by rw [insG, hb]; rfl
      rw [fs1_no hx hg] at hfs
      exact ⟨i + 1, ⟨at_int (m := ((i + 1 : Nat) : Int)) rfl (w64 (by simp) (by omega) (by omega)), rfl, rfl, rfl, rfl, rfl, trivial⟩, rfl, ⟨by omega, hfs, H.d0⟩, by omega⟩
    · rename_i hb
      have hg : insG (fns l) f i x = some () := by rw [insG, hb]; rfl
      have hy := fs1_yes (j := i) hx hg
      rw [hy] at hfs
      exact ⟨52, i, by simp only [ins1, hfs], rfl, H.e⟩
  · have hi : i = f.code.length := by omega
    subst hi
    rw [fs1_end (Nat.le_refl _)] at hfs
    repeat' (first | ((conv => whnf); first | (((with_reducible show Gd _ _ _); first | with_reducible refine Gd.t ?_ | with_reducible refine Gd.f ?_ | with_reducible refine Gd.dec (fun _ => ?_) (fun _ => ?_) | with_reducible refine Gd.beq (fun _ => ?_) (fun _ => ?_) | with_reducible refine Gd.bne (fun _ => ?_) (fun _ => ?_) | with_reducible refine Gd.not ?_ | refine Gd.t ?_ | refine Gd.f ?_ | with_reducible refine Gd.var (fun _ => ?_) (fun _ => ?_)) <;> first | (exfalso; omega) | skip) | with_reducible refine Sq.mk ?_ | ((with_reducible show Ld1 _ _ _); first | refine Ld1.h H ?_ | refine Ld1.rF ?_ | refine Ld1.r ?_) | ((with_reducible show Ld _ _ _ _); first | refine Ld.h H ?_ | refine Ld.r ?_) | ((with_reducible show Ix _ _ _ _ _); (first | refine Ix.h ?_ | refine Ix.ha ?_)) | (refine Al.hp H ?_; clear H; intro _ _ H _) | (refine St.h H ?_; clear H; intro _ H)) | (((conv => whnf); refine Cl.mk (lastOK_c f A c _ (RdS.from H.e hA) hl1 hl2) ?_); rintro _ _ ⟨rfl, hx⟩; replace H := H.ext hx; clear hx))
    · rename_i hb
      exact ⟨by rw [ins1, hfs]; simp [hb], H.e⟩
    · rename_i hb
      exact ⟨53, f.code.length - 1, by rw [ins1, hfs]; simp [hb], by rw [hwl]; rfl, H.e⟩
theorem sound_at {f : Fn} (hS : soundB f = true) {i : Nat} {x : Ins} (hx : f.code[i]? = some x) : (x.kd = 5 → 0 ≤ x.a ∧ x.a < f.slots) ∧ (x.kd = 7 → 0 ≤ x.b ∧ x.b < f.slots) := by
  simp only [soundB, Bool.and_eq_true, List.all_eq_true] at hS
  have h := hS.1.2 x (List.mem_of_getElem? hx)
  refine ⟨fun h5 => ?_, fun h7 => ?_⟩
  · simpa [aloneB, h5, belowB] using h
  · have := h; simp [aloneB, h7, belowB] at this; exact this.2
set_option maxHeartbeats 1000000 in
theorem slots_c (n : Nat) (f : Fn) (A : Option Addr) (c : Nat) (w : World) (hG : RdG w) (hA : RdC w A f.code) (hS : soundB f = true) :
    Cl Tryd.prog 67 #[.int .i64 (n : Int), f.v A c] w (fun _ w' => slot1 f = none ∧ Ext w w')
      (fun ch w' => ∃ e k, slot1 f = some (e, k) ∧ ch = [{ v := .iface 92 (fv3 e n k), recovered := false }] ∧ Ext w w') := by
  have hsh : shapedB f = true := by simp only [soundB, Bool.and_eq_true] at hS; exact hS.1.1
  obtain ⟨hl1, hl2⟩ := shaped_len hsh
  obtain ⟨m, hm, hm8⟩ := slots_nat hsh
  have hmt : f.slots.toNat = m := by omega
  refine calls_ex (args := [.int .i64 (n : Int), f.v A c]) T.ok Tryd.func67 rfl rfl rfl rfl ?_
  have H := Hp.begin nw w
  refine Sq.mk ?_
  ((conv => whnf); refine Al.hp H ?_; clear H; intro pf _ H _)
  repeat' ((conv => whnf); first | (((with_reducible show Gd _ _ _); first | with_reducible refine Gd.t ?_ | with_reducible refine Gd.f ?_ | with_reducible refine Gd.dec (fun _ => ?_) (fun _ => ?_) | with_reducible refine Gd.beq (fun _ => ?_) (fun _ => ?_) | with_reducible refine Gd.bne (fun _ => ?_) (fun _ => ?_) | with_reducible refine Gd.not ?_ | refine Gd.t ?_ | refine Gd.f ?_ | with_reducible refine Gd.var (fun _ => ?_) (fun _ => ?_)) <;> first | (exfalso; omega) | skip) | with_reducible refine Sq.mk ?_ | ((with_reducible show Ld1 _ _ _); first | refine Ld1.h H ?_ | refine Ld1.rF ?_ | refine Ld1.r ?_) | ((with_reducible show Ld _ _ _ _); first | refine Ld.h H ?_ | refine Ld.r ?_) | ((with_reducible show Ix _ _ _ _ _); (first | refine Ix.h ?_ | refine Ix.ha ?_)) | (refine Al.hp H ?_; clear H; intro _ _ H _) | (refine St.h H ?_; clear H; intro _ H))
  ((conv => whnf); refine Cl.mk (states_c f A c m _ (RdS.from H.e hA) (RdS.from H.e hG) hS hm hm8) ?_)
  rintro _ w2 ⟨p, ps, rfl, hpl2, hM, e⟩
  replace H := H.fr0 (mx_new hM e) (.inl rfl)
  clear hM e
  obtain ⟨bb, H⟩ : ∃ bb, Hp nw w w2 [mxk bb p f.code.length m ps (flwG f), bk pf 24 (f.v A c).cells.toList] := ⟨_, H⟩
  repeat' ((conv => whnf); first | (((with_reducible show Gd _ _ _); first | with_reducible refine Gd.t ?_ | with_reducible refine Gd.f ?_ | with_reducible refine Gd.dec (fun _ => ?_) (fun _ => ?_) | with_reducible refine Gd.beq (fun _ => ?_) (fun _ => ?_) | with_reducible refine Gd.bne (fun _ => ?_) (fun _ => ?_) | with_reducible refine Gd.not ?_ | refine Gd.t ?_ | refine Gd.f ?_ | with_reducible refine Gd.var (fun _ => ?_) (fun _ => ?_)) <;> first | (exfalso; omega) | skip) | with_reducible refine Sq.mk ?_ | ((with_reducible show Ld1 _ _ _); first | refine Ld1.h H ?_ | refine Ld1.rF ?_ | refine Ld1.r ?_) | ((with_reducible show Ld _ _ _ _); first | refine Ld.h H ?_ | refine Ld.r ?_) | ((with_reducible show Ix _ _ _ _ _); (first | refine Ix.h ?_ | refine Ix.ha ?_)) | (refine Al.hp H ?_; clear H; intro _ _ H _) | (refine St.h H ?_; clear H; intro _ H))
  refine Lp.g0 T.ok (σ := Nat) (fun i => [(15, .int .i64 (i : Int)), (14, .int .i64 (f.code.length : Int)), (13, .slice A f.code.length c), (4, .slice (some ⟨p, 0, none⟩) f.code.length f.code.length), (3, .pointer (some ⟨pf, 0, none⟩)), (0, .int .i64 (n : Int))])
    (fun i w' => i ≤ f.code.length ∧ fs1 (slotG f) f.code 0 = fs1 (slotG f) (f.code.drop i) i ∧ Hp nw w w' [mxk bb p f.code.length m ps (flwG f), bk pf 24 (f.v A c).cells.toList]) (fun i _ => f.code.length - i) 0 rfl ⟨rfl, rfl, rfl, rfl, rfl, rfl, trivial⟩ ⟨Nat.zero_le _, rfl, H⟩ ?_
  clear H
  rintro i w5 ⟨hi, hfs, H⟩
  by_cases hlt : i < f.code.length
  · obtain ⟨x, hx⟩ : ∃ x, f.code[i]? = some x := ⟨_, List.getElem?_eq_getElem hlt⟩
    obtain ⟨q, hq⟩ : ∃ q, ps[i]? = some q := ⟨_, List.getElem?_eq_getElem (by omega)⟩
    obtain ⟨h5, h7⟩ := sound_at hS hx
    have hA5 := RdS.from H.e hA
    have hgo : rowFault x (rowL m (flwG f i)) = 0 → fs1 (slotG f) f.code 0 = fs1 (slotG f) (f.code.drop (i + 1)) (i + 1) := fun h0 => by
      rw [hfs, fs1_no hx]
      simp only [slotG, hmt]; rw [if_pos h0]
    have hstop : rowFault x (rowL m (flwG f i)) ≠ 0 → slot1 f = some (rowFault x (rowL m (flwG f i)), i) := fun h0 => by
      have hg : slotG f i x = some (rowFault x (rowL m (flwG f i))) := by simp only [slotG, hmt]; rw [if_neg h0]
      rw [slot1, hfs, fs1_yes hx hg]; rfl
    repeat' ((conv => whnf); first | (((with_reducible show Gd _ _ _); first | with_reducible refine Gd.t ?_ | with_reducible refine Gd.f ?_ | with_reducible refine Gd.dec (fun _ => ?_) (fun _ => ?_) | with_reducible refine Gd.beq (fun _ => ?_) (fun _ => ?_) | with_reducible refine Gd.bne (fun _ => ?_) (fun _ => ?_) | with_reducible refine Gd.not ?_ | refine Gd.t ?_ | refine Gd.f ?_ | with_reducible refine Gd.var (fun _ => ?_) (fun _ => ?_)) <;> first | (exfalso; omega) | skip) | with_reducible refine Sq.mk ?_ | ((with_reducible show Ld1 _ _ _); first | refine Ld1.h H ?_ | refine Ld1.rF ?_ | refine Ld1.r ?_) | ((with_reducible show Ld _ _ _ _); first | refine Ld.h H ?_ | refine Ld.r ?_) | ((with_reducible show Ix _ _ _ _ _); (first | refine Ix.h ?_ | refine Ix.ha ?_)) | (refine St.h H ?_; clear H; intro _ H))
    ((conv => whnf); refine Al.hp H ?_; clear H; intro pc _ H _)
    repeat' ((conv => whnf); first | (((with_reducible show Gd _ _ _); first | with_reducible refine Gd.t ?_ | with_reducible refine Gd.f ?_ | with_reducible refine Gd.dec (fun _ => ?_) (fun _ => ?_) | with_reducible refine Gd.beq (fun _ => ?_) (fun _ => ?_) | with_reducible refine Gd.bne (fun _ => ?_) (fun _ => ?_) | with_reducible refine Gd.not ?_ | refine Gd.t ?_ | refine Gd.f ?_ | with_reducible refine Gd.var (fun _ => ?_) (fun _ => ?_)) <;> first | (exfalso; omega) | skip) | with_reducible refine Sq.mk ?_ | ((with_reducible show Ld1 _ _ _); first | refine Ld1.h H ?_ | refine Ld1.rF ?_ | refine Ld1.r ?_) | ((with_reducible show Ld _ _ _ _); first | refine Ld.h H ?_ | refine Ld.r ?_) | ((with_reducible show Ix _ _ _ _ _); (first | refine Ix.h ?_ | refine Ix.ha ?_)) | (refine Al.hp H ?_; clear H; intro _ _ H _) | (refine St.h H ?_; clear H; intro _ H))
    · -- a spawn
      have hM : Mx _ bb p f.code.length m ps (flwG f) := H.atC 1 rfl
      have hr := hM.rd (by omega)
      have hat := hM.at hq
      have hrow := rd_full (hM.row i q hq) (fun _ _ => rfl)
      have hlen := hM.len
      have hlen2 := rowL_len m (flwG f i)
      obtain ⟨s, hs⟩ : ∃ s : Nat, x.a = s := ⟨x.a.toNat, by have := h5 (by assumption); omega⟩
      have hsm : s < m := by have := h5 (by assumption); omega
      have hg := rowL_at (g := flwG f i) hsm
      have hgt : (rowL m (flwG f i))[x.a.toNat]?.getD 0 = flwG f i s := by rw [hs]; simp [hg]
      ((conv => whnf); refine Dr.quiet T.ok mixed (by kernel_rfl) (fun W hW => ?_))
      repeat' ((conv => whnf); first | (((with_reducible show Gd _ _ _); first | with_reducible refine Gd.t ?_ | with_reducible refine Gd.f ?_ | with_reducible refine Gd.dec (fun _ => ?_) (fun _ => ?_) | with_reducible refine Gd.beq (fun _ => ?_) (fun _ => ?_) | with_reducible refine Gd.bne (fun _ => ?_) (fun _ => ?_) | with_reducible refine Gd.not ?_ | refine Gd.t ?_ | refine Gd.f ?_ | with_reducible refine Gd.var (fun _ => ?_) (fun _ => ?_)) <;> first | (exfalso; omega) | skip) | ((with_reducible show QLd1 _ _ _); first | refine QLd1.h hW H ?_ | refine QLd1.rF hW ?_ | refine QLd1.r hW ?_) | ((with_reducible show QLd _ _ _ _); first | refine QLd.h hW H ?_ | refine QLd.r hW ?_) | ((with_reducible show Ix _ _ _ _ _); (first | refine Ix.h ?_ | refine Ix.ha ?_)))
      (intro _ eT; replace H := H.ext eT; clear hW eT)
      clear hr hrow
      repeat' ((conv => whnf); first | (((with_reducible show Gd _ _ _); first | with_reducible refine Gd.t ?_ | with_reducible refine Gd.f ?_ | with_reducible refine Gd.dec (fun _ => ?_) (fun _ => ?_) | with_reducible refine Gd.beq (fun _ => ?_) (fun _ => ?_) | with_reducible refine Gd.bne (fun _ => ?_) (fun _ => ?_) | with_reducible refine Gd.not ?_ | refine Gd.t ?_ | refine Gd.f ?_ | with_reducible refine Gd.var (fun _ => ?_) (fun _ => ?_)) <;> first | (exfalso; omega) | skip) | with_reducible refine Sq.mk ?_ | ((with_reducible show Ld1 _ _ _); first | refine Ld1.h H ?_ | refine Ld1.rF ?_ | refine Ld1.r ?_) | ((with_reducible show Ld _ _ _ _); first | refine Ld.h H ?_ | refine Ld.r ?_) | ((with_reducible show Ix _ _ _ _ _); (first | refine Ix.h ?_ | refine Ix.ha ?_)) | (refine Al.hp H ?_; clear H; intro _ _ H _) | (refine St.h H ?_; clear H; intro _ H))
      all_goals first | (exfalso; omega) | skip
      · have hv : rowFault x (rowL m (flwG f i)) = 54 := by rw [rowFault, if_pos (by assumption), hgt]; exact if_pos (by assumption)
        exact ⟨54, i, by rw [← hv]; exact hstop (by rw [hv]; decide), rfl, H.e⟩
      · have hv : rowFault x (rowL m (flwG f i)) = 0 := by rw [rowFault, if_pos (by assumption), hgt]; exact if_neg (fun hne => hne (by assumption))
        exact ⟨i + 1, ⟨at_int (m := ((i + 1 : Nat) : Int)) rfl (w64 (by simp) (by omega) (by omega)), rfl, rfl, rfl, rfl, rfl, trivial⟩, rfl, ⟨by omega, hgo hv, H.d0⟩, by omega⟩
    · -- a load
      have hM : Mx _ bb p f.code.length m ps (flwG f) := H.atC 1 rfl
      have hr := hM.rd (by omega)
      have hat := hM.at hq
      have hrow := rd_full (hM.row i q hq) (fun _ _ => rfl)
      have hlen := hM.len
      have hlen2 := rowL_len m (flwG f i)
      obtain ⟨s, hs⟩ : ∃ s : Nat, x.b = s := ⟨x.b.toNat, by have := h7 (by assumption); omega⟩
      have hsm : s < m := by have := h7 (by assumption); omega
      have hg := rowL_at (g := flwG f i) hsm
      have hgt : (rowL m (flwG f i))[x.b.toNat]?.getD 0 = flwG f i s := by rw [hs]; simp [hg]
      ((conv => whnf); refine Dr.quiet T.ok mixed (by kernel_rfl) (fun W hW => ?_))
      repeat' ((conv => whnf); first | (((with_reducible show Gd _ _ _); first | with_reducible refine Gd.t ?_ | with_reducible refine Gd.f ?_ | with_reducible refine Gd.dec (fun _ => ?_) (fun _ => ?_) | with_reducible refine Gd.beq (fun _ => ?_) (fun _ => ?_) | with_reducible refine Gd.bne (fun _ => ?_) (fun _ => ?_) | with_reducible refine Gd.not ?_ | refine Gd.t ?_ | refine Gd.f ?_ | with_reducible refine Gd.var (fun _ => ?_) (fun _ => ?_)) <;> first | (exfalso; omega) | skip) | ((with_reducible show QLd1 _ _ _); first | refine QLd1.h hW H ?_ | refine QLd1.rF hW ?_ | refine QLd1.r hW ?_) | ((with_reducible show QLd _ _ _ _); first | refine QLd.h hW H ?_ | refine QLd.r hW ?_) | ((with_reducible show Ix _ _ _ _ _); (first | refine Ix.h ?_ | refine Ix.ha ?_)))
      (intro _ eT; replace H := H.ext eT; clear hW eT)
      clear hr hrow
      repeat' ((conv => whnf); first | (((with_reducible show Gd _ _ _); first | with_reducible refine Gd.t ?_ | with_reducible refine Gd.f ?_ | with_reducible refine Gd.dec (fun _ => ?_) (fun _ => ?_) | with_reducible refine Gd.beq (fun _ => ?_) (fun _ => ?_) | with_reducible refine Gd.bne (fun _ => ?_) (fun _ => ?_) | with_reducible refine Gd.not ?_ | refine Gd.t ?_ | refine Gd.f ?_ | with_reducible refine Gd.var (fun _ => ?_) (fun _ => ?_)) <;> first | (exfalso; omega) | skip) | with_reducible refine Sq.mk ?_ | ((with_reducible show Ld1 _ _ _); first | refine Ld1.h H ?_ | refine Ld1.rF ?_ | refine Ld1.r ?_) | ((with_reducible show Ld _ _ _ _); first | refine Ld.h H ?_ | refine Ld.r ?_) | ((with_reducible show Ix _ _ _ _ _); (first | refine Ix.h ?_ | refine Ix.ha ?_)) | (refine Al.hp H ?_; clear H; intro _ _ H _) | (refine St.h H ?_; clear H; intro _ H))
      all_goals first | (exfalso; omega) | skip
      · have hv : rowFault x (rowL m (flwG f i)) = 55 := by rw [rowFault, if_neg (by assumption), if_pos (by assumption), hgt]; exact if_pos (by assumption)
        exact ⟨55, i, by rw [← hv]; exact hstop (by rw [hv]; decide), rfl, H.e⟩
      · have hv : rowFault x (rowL m (flwG f i)) = 0 := by rw [rowFault, if_neg (by assumption), if_pos (by assumption), hgt]; exact if_neg (fun hne => hne (by assumption))
        exact ⟨i + 1, ⟨at_int (m := ((i + 1 : Nat) : Int)) rfl (w64 (by simp) (by omega) (by omega)), rfl, rfl, rfl, rfl, rfl, trivial⟩, rfl, ⟨by omega, hgo hv, H.d0⟩, by omega⟩
    · -- a return
      have hM : Mx _ bb p f.code.length m ps (flwG f) := H.atC 1 rfl
      have hr := hM.rd (by omega)
      have hat := hM.at hq
      have hrow := rd_full (hM.row i q hq) (fun _ _ => rfl)
      have hlen := hM.len
      have hlen2 := rowL_len m (flwG f i)
      repeat' ((conv => whnf); first | (((with_reducible show Gd _ _ _); first | with_reducible refine Gd.t ?_ | with_reducible refine Gd.f ?_ | with_reducible refine Gd.dec (fun _ => ?_) (fun _ => ?_) | with_reducible refine Gd.beq (fun _ => ?_) (fun _ => ?_) | with_reducible refine Gd.bne (fun _ => ?_) (fun _ => ?_) | with_reducible refine Gd.not ?_ | refine Gd.t ?_ | refine Gd.f ?_ | with_reducible refine Gd.var (fun _ => ?_) (fun _ => ?_)) <;> first | (exfalso; omega) | skip) | with_reducible refine Sq.mk ?_ | ((with_reducible show Ld1 _ _ _); first | refine Ld1.h H ?_ | refine Ld1.rF ?_ | refine Ld1.r ?_) | ((with_reducible show Ld _ _ _ _); first | refine Ld.h H ?_ | refine Ld.r ?_) | ((with_reducible show Ix _ _ _ _ _); (first | refine Ix.h ?_ | refine Ix.ha ?_)) | (refine Al.hp H ?_; clear H; intro _ _ H _) | (refine St.h H ?_; clear H; intro _ H))
      clear hr hrow hM
      refine Lp.g0 T.ok (σ := Nat) (fun k => [(53, .int .i64 (k : Int)), (52, .int .i64 ((rowL m (flwG f i)).length : Int)), (51, .slice (some ⟨q, 0, none⟩) (rowL m (flwG f i)).length (rowL m (flwG f i)).length), (7, .int .i64 (if ((rowL m (flwG f i)).take k).any (fun m => decide (bitand m 2 ≠ 0)) then 56 else 0)),
          (15, .int .i64 (i : Int)), (14, .int .i64 (f.code.length : Int)), (13, .slice A f.code.length c), (6, .pointer (some ⟨pc, 0, none⟩)), (5, .int .i64 (i : Int)), (4, .slice (some ⟨p, 0, none⟩) f.code.length f.code.length), (3, .pointer (some ⟨pf, 0, none⟩)), (0, .int .i64 (n : Int))])
        (fun k w' => k ≤ (rowL m (flwG f i)).length ∧ Hp nw w w' [bk pc 35 x.enc, mxk bb p f.code.length m ps (flwG f), bk pf 24 (f.v A c).cells.toList]) (fun k _ => (rowL m (flwG f i)).length - k) 0 rfl
        ⟨rfl, at_int rfl (by rw [hlen2]), at_val rfl (by rw [hlen2]; rfl), rfl, rfl, rfl, rfl, rfl, rfl, rfl, rfl, rfl, trivial⟩ ⟨Nat.zero_le _, H⟩ ?_
      clear H
      rintro k w6 ⟨hk, H⟩
      have hM : Mx _ bb p f.code.length m ps (flwG f) := H.atC 1 rfl
      have hrow := rd_full (hM.row i q hq) (fun _ _ => rfl)
      by_cases hkl : k < (rowL m (flwG f i)).length
      · obtain ⟨y, hy⟩ : ∃ y, (rowL m (flwG f i))[k]? = some y := ⟨_, List.getElem?_eq_getElem hkl⟩
        have hst := any_step (p := fun m => decide (bitand m 2 ≠ 0)) hy
        repeat' ((conv => whnf); first | (((with_reducible show Gd _ _ _); first | with_reducible refine Gd.t ?_ | with_reducible refine Gd.f ?_ | with_reducible refine Gd.dec (fun _ => ?_) (fun _ => ?_) | with_reducible refine Gd.beq (fun _ => ?_) (fun _ => ?_) | with_reducible refine Gd.bne (fun _ => ?_) (fun _ => ?_) | with_reducible refine Gd.not ?_ | refine Gd.t ?_ | refine Gd.f ?_ | with_reducible refine Gd.var (fun _ => ?_) (fun _ => ?_)) <;> first | (exfalso; omega) | skip) | with_reducible refine Sq.mk ?_ | ((with_reducible show Ld1 _ _ _); first | refine Ld1.h H ?_ | refine Ld1.rF ?_ | refine Ld1.r ?_) | ((with_reducible show Ld _ _ _ _); first | refine Ld.h H ?_ | refine Ld.r ?_) | ((with_reducible show Ix _ _ _ _ _); (first | refine Ix.h ?_ | refine Ix.ha ?_)) | (refine Al.hp H ?_; clear H; intro _ _ H _) | (refine St.h H ?_; clear H; intro _ H))
        · refine ⟨k + 1, ⟨at_int rfl (w64 (by simp) (by omega) (by omega)), rfl, rfl, at_val rfl (i_eq ?_), rfl, rfl, rfl, rfl, rfl, rfl, rfl, rfl, trivial⟩, rfl, ⟨by omega, H⟩, by omega⟩
          rw [hst, decide_eq_true (by assumption), Bool.or_true]; rfl
        · refine ⟨k + 1, ⟨at_int rfl (w64 (by simp) (by omega) (by omega)), rfl, rfl, at_val rfl (i_eq ?_), rfl, rfl, rfl, rfl, rfl, rfl, rfl, rfl, trivial⟩, rfl, ⟨by omega, H⟩, by omega⟩
          rw [hst, decide_eq_false (fun hne => hne (by assumption)), Bool.or_false]
      · have hk : k = (rowL m (flwG f i)).length := by omega
        subst hk
        have hv : rowFault x (rowL m (flwG f i)) = if ((rowL m (flwG f i)).take (rowL m (flwG f i)).length).any (fun m => decide (bitand m 2 ≠ 0)) then 56 else 0 := by
          rw [rowFault, if_neg (by assumption), if_neg (by assumption), if_pos (by assumption), List.take_length]
        clear hM hrow
        repeat' ((conv => whnf); first | (((with_reducible show Gd _ _ _); first | with_reducible refine Gd.t ?_ | with_reducible refine Gd.f ?_ | with_reducible refine Gd.dec (fun _ => ?_) (fun _ => ?_) | with_reducible refine Gd.beq (fun _ => ?_) (fun _ => ?_) | with_reducible refine Gd.bne (fun _ => ?_) (fun _ => ?_) | with_reducible refine Gd.not ?_ | refine Gd.t ?_ | refine Gd.f ?_ | with_reducible refine Gd.var (fun _ => ?_) (fun _ => ?_)) <;> first | (exfalso; omega) | skip) | with_reducible refine Sq.mk ?_ | ((with_reducible show Ld1 _ _ _); first | refine Ld1.h H ?_ | refine Ld1.rF ?_ | refine Ld1.r ?_) | ((with_reducible show Ld _ _ _ _); first | refine Ld.h H ?_ | refine Ld.r ?_) | ((with_reducible show Ix _ _ _ _ _); (first | refine Ix.h ?_ | refine Ix.ha ?_)) | (refine Al.hp H ?_; clear H; intro _ _ H _) | (refine St.h H ?_; clear H; intro _ H))
        · rw [← hv]
          exact ⟨_, i, hstop (by rw [hv]; assumption), rfl, H.e⟩
        · exact ⟨i + 1, ⟨at_int (m := ((i + 1 : Nat) : Int)) rfl (w64 (by simp) (by omega) (by omega)), rfl, rfl, rfl, rfl, rfl, trivial⟩, rfl, ⟨by omega, hgo (by rw [hv]; assumption), H.d0⟩, by omega⟩
    · have hv : rowFault x (rowL m (flwG f i)) = 0 := by rw [rowFault, if_neg (by assumption), if_neg (by assumption), if_neg (by assumption)]
      repeat' ((conv => whnf); first | (((with_reducible show Gd _ _ _); first | with_reducible refine Gd.t ?_ | with_reducible refine Gd.f ?_ | with_reducible refine Gd.dec (fun _ => ?_) (fun _ => ?_) | with_reducible refine Gd.beq (fun _ => ?_) (fun _ => ?_) | with_reducible refine Gd.bne (fun _ => ?_) (fun _ => ?_) | with_reducible refine Gd.not ?_ | refine Gd.t ?_ | refine Gd.f ?_ | with_reducible refine Gd.var (fun _ => ?_) (fun _ => ?_)) <;> first | (exfalso; omega) | skip) | with_reducible refine Sq.mk ?_ | ((with_reducible show Ld1 _ _ _); first | refine Ld1.h H ?_ | refine Ld1.rF ?_ | refine Ld1.r ?_) | ((with_reducible show Ld _ _ _ _); first | refine Ld.h H ?_ | refine Ld.r ?_) | ((with_reducible show Ix _ _ _ _ _); (first | refine Ix.h ?_ | refine Ix.ha ?_)) | (refine Al.hp H ?_; clear H; intro _ _ H _) | (refine St.h H ?_; clear H; intro _ H))
      exact ⟨i + 1, ⟨at_int (m := ((i + 1 : Nat) : Int)) rfl (w64 (by simp) (by omega) (by omega)), rfl, rfl, rfl, rfl, rfl, trivial⟩, rfl, ⟨by omega, hgo hv, H.d0⟩, by omega⟩
  · have hi : i = f.code.length := by omega
    subst hi
    rw [fs1_end (Nat.le_refl _)] at hfs
    repeat' ((conv => whnf); first | (((with_reducible show Gd _ _ _); first | with_reducible refine Gd.t ?_ | with_reducible refine Gd.f ?_ | with_reducible refine Gd.dec (fun _ => ?_) (fun _ => ?_) | with_reducible refine Gd.beq (fun _ => ?_) (fun _ => ?_) | with_reducible refine Gd.bne (fun _ => ?_) (fun _ => ?_) | with_reducible refine Gd.not ?_ | refine Gd.t ?_ | refine Gd.f ?_ | with_reducible refine Gd.var (fun _ => ?_) (fun _ => ?_)) <;> first | (exfalso; omega) | skip) | with_reducible refine Sq.mk ?_ | ((with_reducible show Ld1 _ _ _); first | refine Ld1.h H ?_ | refine Ld1.rF ?_ | refine Ld1.r ?_) | ((with_reducible show Ld _ _ _ _); first | refine Ld.h H ?_ | refine Ld.r ?_) | ((with_reducible show Ix _ _ _ _ _); (first | refine Ix.h ?_ | refine Ix.ha ?_)) | (refine Al.hp H ?_; clear H; intro _ _ H _) | (refine St.h H ?_; clear H; intro _ H))
    exact ⟨by rw [slot1, hfs]; rfl, H.e⟩
end Go.Proofs.YtbbadmlekagloaaDoor
namespace Go.Proofs.YtbbadmlekagloaaDoor
open Go Go.Sh
set_option linter.unusedVariables false
set_option linter.unusedSimpArgs false
attribute [local irreducible] Blk Ext RdS
def wrongV (e : Int) (i k : Nat) : Value := .iface 92 (fv3 e i k)
theorem run_assert (x : Value) (w : World) : (Instr.typeAssert (.iface 92 x) 20 92 true).run Tryd.prog w = .ok (.tuple #[x, .bool true]) w := by kernel_rfl
theorem check1_ret (pr : Nat) (w : World) : DCl Tryd.prog 64 #[.pointer (some ⟨pr, 0, none⟩)] .returning w (fun u w' => u = .returning ∧ Ext w w') := by
  refine DCl.recov (args := [.pointer (some ⟨pr, 0, none⟩)]) T.ok Tryd.func64 rfl rfl rfl rfl (fun ρ w => rfl) rfl rfl rfl (.inl ⟨rfl, rfl, rfl⟩) ?_
  have H := Hp.begin nw w
  repeat' ((conv => whnf); first | (((with_reducible show Gd _ _ _); first | with_reducible refine Gd.t ?_ | with_reducible refine Gd.f ?_ | with_reducible refine Gd.dec (fun _ => ?_) (fun _ => ?_) | with_reducible refine Gd.beq (fun _ => ?_) (fun _ => ?_) | with_reducible refine Gd.bne (fun _ => ?_) (fun _ => ?_) | with_reducible refine Gd.not ?_ | refine Gd.t ?_ | refine Gd.f ?_ | with_reducible refine Gd.var (fun _ => ?_) (fun _ => ?_)) <;> first | (exfalso; omega) | skip) | with_reducible refine Sq.mk ?_ | ((with_reducible show Ld1 _ _ _); first | refine Ld1.h H ?_ | refine Ld1.rF ?_ | refine Ld1.r ?_) | ((with_reducible show Ld _ _ _ _); first | refine Ld.h H ?_ | refine Ld.r ?_) | ((with_reducible show Ix _ _ _ _ _); (first | refine Ix.h ?_ | refine Ix.ha ?_)) | (refine Al.hp H ?_; clear H; intro _ _ H _) | (refine St.h H ?_; clear H; intro _ H))
  exact ⟨rfl, rfl, H.e⟩
theorem check1_pan (e : Int) (i k pr : Nat) (cs : List Value) (w : World) (hb : Blk w pr 48 cs) (hl : cs.length = 3) :
    DCl Tryd.prog 64 #[.pointer (some ⟨pr, 0, none⟩)] (.panicking [{ v := wrongV e i k, recovered := false }]) w
      (fun u w' => u = .panicking [{ v := wrongV e i k, recovered := true }] ∧ Hp (· = pr) w w' [bk pr 48 (fv3 e i k).cells.toList]) := by
  obtain ⟨c0, c1, c2, rfl⟩ : ∃ a b c, cs = [a, b, c] := by
    match cs, hl with
    | [a, b, c], _ => exact ⟨a, b, c, rfl⟩
  refine DCl.recov (args := [.pointer (some ⟨pr, 0, none⟩)]) T.ok Tryd.func64 rfl rfl rfl rfl (fun ρ w => rfl) rfl rfl rfl (.inr ⟨_, rfl, rfl, rfl⟩) ?_
  have H := Hp.start (S := (· = pr)) (bk_ok hb) (fun k hk => hk)
  repeat' ((conv => whnf); first | (((with_reducible show Gd _ _ _); first | with_reducible refine Gd.t ?_ | with_reducible refine Gd.f ?_ | with_reducible refine Gd.dec (fun _ => ?_) (fun _ => ?_) | with_reducible refine Gd.beq (fun _ => ?_) (fun _ => ?_) | with_reducible refine Gd.bne (fun _ => ?_) (fun _ => ?_) | with_reducible refine Gd.not ?_ | refine Gd.t ?_ | refine Gd.f ?_ | with_reducible refine Gd.var (fun _ => ?_) (fun _ => ?_)) <;> first | (exfalso; omega) | skip) | with_reducible refine Sq.mk ?_ | ((with_reducible show Ld1 _ _ _); first | refine Ld1.h H ?_ | refine Ld1.rF ?_ | refine Ld1.r ?_) | ((with_reducible show Ld _ _ _ _); first | refine Ld.h H ?_ | refine Ld.r ?_) | ((with_reducible show Ix _ _ _ _ _); (first | refine Ix.h ?_ | refine Ix.ha ?_)) | (refine Al.hp H ?_; clear H; intro _ _ H _) | (refine St.h H ?_; clear H; intro _ H))
  refine Sm.ran (run_assert _ _) ?_
  repeat' ((conv => whnf); first | (((with_reducible show Gd _ _ _); first | with_reducible refine Gd.t ?_ | with_reducible refine Gd.f ?_ | with_reducible refine Gd.dec (fun _ => ?_) (fun _ => ?_) | with_reducible refine Gd.beq (fun _ => ?_) (fun _ => ?_) | with_reducible refine Gd.bne (fun _ => ?_) (fun _ => ?_) | with_reducible refine Gd.not ?_ | refine Gd.t ?_ | refine Gd.f ?_ | with_reducible refine Gd.var (fun _ => ?_) (fun _ => ?_)) <;> first | (exfalso; omega) | skip) | with_reducible refine Sq.mk ?_ | ((with_reducible show Ld1 _ _ _); first | refine Ld1.h H ?_ | refine Ld1.rF ?_ | refine Ld1.r ?_) | ((with_reducible show Ld _ _ _ _); first | refine Ld.h H ?_ | refine Ld.r ?_) | ((with_reducible show Ix _ _ _ _ _); (first | refine Ix.h ?_ | refine Ix.ha ?_)) | (refine Al.hp H ?_; clear H; intro _ _ H _) | (refine St.h H ?_; clear H; intro _ H))
  exact ⟨rfl, rfl, H.d0⟩
theorem shaped_all {l : List FE} (h : fs1 (fun _ f => if shapedB f then none else some ()) (fns l) 0 = none) : ∀ y ∈ l, shapedB y.1 = true := by
  have key : ∀ (m : List Fn) (j : Nat), fs1 (fun _ f => if shapedB f then none else some ()) m j = none → ∀ f ∈ m, shapedB f = true := by
    intro m
    induction m with
    | nil => simp
    | cons x r ih =>
      intro j h f hf
      by_cases hx : shapedB x = true
      · simp only [fs1, hx, if_true] at h
        rcases List.mem_cons.1 hf with rfl | hf
        · exact hx
        · exact ih _ h f hf
      · simp [fs1, hx] at h
  exact fun y hy => key _ 0 h _ (List.mem_map.2 ⟨y, hy, rfl⟩)
theorem ins_sound {fs : List Fn} {f : Fn} (hs : shapedB f = true) (h : ins1 fs f = none) : soundB f = true := by
  have key : ∀ (m : List Ins) (j : Nat), fs1 (insG fs f) m j = none → ∀ c ∈ m, aloneB f c = true := by
    intro m
    induction m with
    | nil => simp
    | cons x r ih =>
      intro j h c hc
      by_cases hx : (aloneB f x && calledB fs f x) = true
      · simp only [fs1, insG, hx, if_true] at h
        rcases List.mem_cons.1 hc with rfl | hc
        · exact (Bool.and_eq_true _ _ ▸ hx).1
        · exact ih _ h c hc
      · simp [fs1, insG, hx] at h
  unfold ins1 at h
  split at h
  · simp at h
  · rename_i h1
    split at h
    · rename_i h2
      simp only [soundB, hs, h2, Bool.and_true, Bool.true_and, List.all_eq_true]
      exact key _ 0 h1
    · simp at h
theorem all_sound {l : List FE} (hs : ∀ y ∈ l, shapedB y.1 = true) (h : fs1 (fun _ f => ins1 (fns l) f) (fns l) 0 = none) : ∀ y ∈ l, soundB y.1 = true := by
  have key : ∀ (m : List Fn) (j : Nat), fs1 (fun _ f => ins1 (fns l) f) m j = none → ∀ f ∈ m, ins1 (fns l) f = none := by
    intro m
    induction m with
    | nil => simp
    | cons x r ih =>
      intro j h f hf
      cases hx : ins1 (fns l) x with
      | none =>
        simp only [fs1, hx] at h
        rcases List.mem_cons.1 hf with rfl | hf
        · exact hx
        · exact ih _ h f hf
      | some b => simp [fs1, hx] at h
  exact fun y hy => ins_sound (hs y hy) (key _ 0 h _ (List.mem_map.2 ⟨y, hy, rfl⟩))
theorem fns_at {l : List FE} {i : Nat} {x : FE} (h : l[i]? = some x) : (fns l)[i]? = some x.1 := by simp [fns, h]
theorem Check_c (B : Option Addr) (l : List FE) (d : Nat) (w : World) (hG : RdG w) (hB : RdP w B l) :
    Cl Tryd.prog 30 #[pv B l.length d] w (fun v w' => v = fvV (checkL (fns l)) ∧ Ext w w') (fun _ _ => False) := by
  refine calls_exd (args := [pv B l.length d]) T.ok Tryd.func30 rfl rfl rfl rfl ?_
  have H := Hp.begin nw w
  have hfl := fns_len l
  refine Sq.mk ?_
  ((conv => whnf); refine Al.hp H ?_; clear H; intro pp _ H _)
  ((conv => whnf); refine Al.hp H ?_; clear H; intro pr _ H _)
  repeat' ((conv => whnf); first | (((with_reducible show Gd _ _ _); first | with_reducible refine Gd.t ?_ | with_reducible refine Gd.f ?_ | with_reducible refine Gd.dec (fun _ => ?_) (fun _ => ?_) | with_reducible refine Gd.beq (fun _ => ?_) (fun _ => ?_) | with_reducible refine Gd.bne (fun _ => ?_) (fun _ => ?_) | with_reducible refine Gd.not ?_ | refine Gd.t ?_ | refine Gd.f ?_ | with_reducible refine Gd.var (fun _ => ?_) (fun _ => ?_)) <;> first | (exfalso; omega) | skip) | with_reducible refine Sq.mk ?_ | ((with_reducible show Ld1 _ _ _); first | refine Ld1.h H ?_ | refine Ld1.rF ?_ | refine Ld1.r ?_) | ((with_reducible show Ld _ _ _ _); first | refine Ld.h H ?_ | refine Ld.r ?_) | ((with_reducible show Ix _ _ _ _ _); (first | refine Ix.h ?_ | refine Ix.ha ?_)) | (refine Al.hp H ?_; clear H; intro _ _ H _) | (refine St.h H ?_; clear H; intro _ H))
  · ((conv => whnf); refine DCl.mono (check1_ret pr _) ?_; rintro _ _ ⟨rfl, hx⟩; replace H := H.ext hx; clear hx; refine ⟨rfl, ?_⟩; repeat' ((conv => whnf); first | (((with_reducible show Gd _ _ _); first | with_reducible refine Gd.t ?_ | with_reducible refine Gd.f ?_ | with_reducible refine Gd.dec (fun _ => ?_) (fun _ => ?_) | with_reducible refine Gd.beq (fun _ => ?_) (fun _ => ?_) | with_reducible refine Gd.bne (fun _ => ?_) (fun _ => ?_) | with_reducible refine Gd.not ?_ | refine Gd.t ?_ | refine Gd.f ?_ | with_reducible refine Gd.var (fun _ => ?_) (fun _ => ?_)) <;> first | (exfalso; omega) | skip) | with_reducible refine Sq.mk ?_ | ((with_reducible show Ld1 _ _ _); first | refine Ld1.h H ?_ | refine Ld1.rF ?_ | refine Ld1.r ?_) | ((with_reducible show Ld _ _ _ _); first | refine Ld.h H ?_ | refine Ld.r ?_) | ((with_reducible show Ix _ _ _ _ _); (first | refine Ix.h ?_ | refine Ix.ha ?_)) | (refine Al.hp H ?_; clear H; intro _ _ H _) | (refine St.h H ?_; clear H; intro _ H)))
    refine ⟨?_, H.e⟩
    rw [checkL, if_pos (.inl (by omega))]; rfl
  · ((conv => whnf); refine DCl.mono (check1_ret pr _) ?_; rintro _ _ ⟨rfl, hx⟩; replace H := H.ext hx; clear hx; refine ⟨rfl, ?_⟩; repeat' ((conv => whnf); first | (((with_reducible show Gd _ _ _); first | with_reducible refine Gd.t ?_ | with_reducible refine Gd.f ?_ | with_reducible refine Gd.dec (fun _ => ?_) (fun _ => ?_) | with_reducible refine Gd.beq (fun _ => ?_) (fun _ => ?_) | with_reducible refine Gd.bne (fun _ => ?_) (fun _ => ?_) | with_reducible refine Gd.not ?_ | refine Gd.t ?_ | refine Gd.f ?_ | with_reducible refine Gd.var (fun _ => ?_) (fun _ => ?_)) <;> first | (exfalso; omega) | skip) | with_reducible refine Sq.mk ?_ | ((with_reducible show Ld1 _ _ _); first | refine Ld1.h H ?_ | refine Ld1.rF ?_ | refine Ld1.r ?_) | ((with_reducible show Ld _ _ _ _); first | refine Ld.h H ?_ | refine Ld.r ?_) | ((with_reducible show Ix _ _ _ _ _); (first | refine Ix.h ?_ | refine Ix.ha ?_)) | (refine Al.hp H ?_; clear H; intro _ _ H _) | (refine St.h H ?_; clear H; intro _ H)))
    refine ⟨?_, H.e⟩
    rw [checkL, if_pos (.inr (by omega))]; rfl
  -- the shapes
  have hlo : ¬ ((fns l).length < 1 ∨ 32 < (fns l).length) := by omega
  refine Lp.go T.ok (σ := Nat) (fun i => [(24, .int .i64 (i : Int)), (23, .int .i64 (l.length : Int)), (22, .slice B l.length d), (1, .pointer (some ⟨pp, 0, none⟩)), (2, .pointer (some ⟨pr, 0, none⟩))])
    (fun i w' => i ≤ l.length ∧ fs1 (fun _ f => if shapedB f then none else some ()) (fns l) 0 = fs1 (fun _ f => if shapedB f then none else some ()) ((fns l).drop i) i ∧ Hp nw w w' [bk pr 48 (T.t48.zero.cells.toList), bk pp 46 (pv B l.length d).cells.toList]) (fun i _ => l.length - i) 0 ⟨rfl, rfl, rfl, rfl, rfl, trivial⟩ ⟨Nat.zero_le _, rfl, H⟩ ?_
  clear H
  rintro i w5 ⟨hi, hfs, H⟩
  by_cases hlt : i < l.length
  · obtain ⟨x, hx⟩ : ∃ x, l[i]? = some x := ⟨_, List.getElem?_eq_getElem hlt⟩
    have hfx := fns_at hx
    have hB5 := RdS.from H.e hB.top
    repeat' (first | ((conv => whnf); first | (((with_reducible show Gd _ _ _); first | with_reducible refine Gd.t ?_ | with_reducible refine Gd.f ?_ | with_reducible refine Gd.dec (fun _ => ?_) (fun _ => ?_) | with_reducible refine Gd.beq (fun _ => ?_) (fun _ => ?_) | with_reducible refine Gd.bne (fun _ => ?_) (fun _ => ?_) | with_reducible refine Gd.not ?_ | refine Gd.t ?_ | refine Gd.f ?_ | with_reducible refine Gd.var (fun _ => ?_) (fun _ => ?_)) <;> first | (exfalso; omega) | skip) | with_reducible refine Sq.mk ?_ | ((with_reducible show Ld1 _ _ _); first | refine Ld1.h H ?_ | refine Ld1.rF ?_ | refine Ld1.r ?_) | ((with_reducible show Ld _ _ _ _); first | refine Ld.h H ?_ | refine Ld.r ?_) | ((with_reducible show Ix _ _ _ _ _); (first | refine Ix.h ?_ | refine Ix.ha ?_)) | (refine Al.hp H ?_; clear H; intro _ _ H _) | (refine St.h H ?_; clear H; intro _ H)) | (((conv => whnf); refine Cl.mk (shapeOK_c x.1 x.2.1 x.2.2 _) ?_); rintro _ _ ⟨rfl, hx⟩; replace H := H.ext hx; clear hx))
    · have hb : shapedB x.1 = true := by assumption
      rw [fs1_no hfx (by simp only [hb]; rfl)] at hfs
      exact ⟨i + 1, ⟨at_int (m := ((i + 1 : Nat) : Int)) rfl (w64 (by simp) (by omega) (by omega)), rfl, rfl, rfl, rfl, trivial⟩, rfl, ⟨by omega, hfs, H.d0⟩, by omega⟩
    · have hb : shapedB x.1 = false := by assumption
      rw [fs1_yes hfx (b := ()) (by simp only [hb]; rfl)] at hfs
      ((conv => whnf); refine DCl.mono (check1_ret pr _) ?_; rintro _ _ ⟨rfl, hx⟩; replace H := H.ext hx; clear hx; refine ⟨rfl, ?_⟩; repeat' ((conv => whnf); first | (((with_reducible show Gd _ _ _); first | with_reducible refine Gd.t ?_ | with_reducible refine Gd.f ?_ | with_reducible refine Gd.dec (fun _ => ?_) (fun _ => ?_) | with_reducible refine Gd.beq (fun _ => ?_) (fun _ => ?_) | with_reducible refine Gd.bne (fun _ => ?_) (fun _ => ?_) | with_reducible refine Gd.not ?_ | refine Gd.t ?_ | refine Gd.f ?_ | with_reducible refine Gd.var (fun _ => ?_) (fun _ => ?_)) <;> first | (exfalso; omega) | skip) | with_reducible refine Sq.mk ?_ | ((with_reducible show Ld1 _ _ _); first | refine Ld1.h H ?_ | refine Ld1.rF ?_ | refine Ld1.r ?_) | ((with_reducible show Ld _ _ _ _); first | refine Ld.h H ?_ | refine Ld.r ?_) | ((with_reducible show Ix _ _ _ _ _); (first | refine Ix.h ?_ | refine Ix.ha ?_)) | (refine Al.hp H ?_; clear H; intro _ _ H _) | (refine St.h H ?_; clear H; intro _ H)))
      refine ⟨?_, H.e⟩
      rw [checkL, if_neg hlo]; simp only [hfs] <;> rfl
  have hi : i = l.length := by omega
  subst hi
  rw [fs1_end (by omega)] at hfs
  have hsh := shaped_all hfs
  have hC1 : checkL (fns l) = match fs1 (fun _ f => ins1 (fns l) f) (fns l) 0 with
      | some (i, e, k) => (e, i, k)
      | none => match fs1 (fun _ f => slot1 f) (fns l) 0 with
        | some (i, e, k) => (e, i, k)
        | none => (0, 0, 0) := by rw [checkL, if_neg hlo]; simp only [hfs] <;> rfl
  have hne : l ≠ [] := fun h => by subst h; exact hlo (.inl (by simp [fns]))
  have hpar : ∀ y ∈ l, 0 ≤ y.1.params ∧ y.1.params ≤ 8 := fun y hy => by
    have h := hsh y hy
    simp only [shapedB, decide_eq_true_eq] at h
    omega
  clear hlo hfs hlt hi
  repeat' ((conv => whnf); first | (((with_reducible show Gd _ _ _); first | with_reducible refine Gd.t ?_ | with_reducible refine Gd.f ?_ | with_reducible refine Gd.dec (fun _ => ?_) (fun _ => ?_) | with_reducible refine Gd.beq (fun _ => ?_) (fun _ => ?_) | with_reducible refine Gd.bne (fun _ => ?_) (fun _ => ?_) | with_reducible refine Gd.not ?_ | refine Gd.t ?_ | refine Gd.f ?_ | with_reducible refine Gd.var (fun _ => ?_) (fun _ => ?_)) <;> first | (exfalso; omega) | skip) | with_reducible refine Sq.mk ?_ | ((with_reducible show Ld1 _ _ _); first | refine Ld1.h H ?_ | refine Ld1.rF ?_ | refine Ld1.r ?_) | ((with_reducible show Ld _ _ _ _); first | refine Ld.h H ?_ | refine Ld.r ?_) | ((with_reducible show Ix _ _ _ _ _); (first | refine Ix.h ?_ | refine Ix.ha ?_)) | (refine Al.hp H ?_; clear H; intro _ _ H _) | (refine St.h H ?_; clear H; intro _ H))
  -- the instructions
  refine Lp.go T.ok (σ := Nat) (fun i => [(38, .int .i64 (i : Int)), (37, .int .i64 (l.length : Int)), (36, .slice B l.length d), (1, .pointer (some ⟨pp, 0, none⟩)), (2, .pointer (some ⟨pr, 0, none⟩))])
    (fun i w' => i ≤ l.length ∧ fs1 (fun _ f => ins1 (fns l) f) (fns l) 0 = fs1 (fun _ f => ins1 (fns l) f) ((fns l).drop i) i ∧ Hp nw w w' [bk pr 48 (T.t48.zero.cells.toList), bk pp 46 (pv B l.length d).cells.toList]) (fun i _ => l.length - i) 0 ⟨rfl, rfl, rfl, rfl, rfl, trivial⟩ ⟨Nat.zero_le _, rfl, H⟩ ?_
  clear H
  rintro i w6 ⟨hi, hfs, H⟩
  by_cases hlt : i < l.length
  rotate_left
  have hi : i = l.length := by omega
  subst hi
  rw [fs1_end (by omega)] at hfs
  have hsd := all_sound hsh hfs
  have hC2 : checkL (fns l) = match fs1 (fun _ f => slot1 f) (fns l) 0 with
        | some (i, e, k) => (e, i, k)
        | none => (0, 0, 0) := by rw [hC1]; simp only [hfs]
  clear hC1 hfs hlt hi
  repeat' ((conv => whnf); first | (((with_reducible show Gd _ _ _); first | with_reducible refine Gd.t ?_ | with_reducible refine Gd.f ?_ | with_reducible refine Gd.dec (fun _ => ?_) (fun _ => ?_) | with_reducible refine Gd.beq (fun _ => ?_) (fun _ => ?_) | with_reducible refine Gd.bne (fun _ => ?_) (fun _ => ?_) | with_reducible refine Gd.not ?_ | refine Gd.t ?_ | refine Gd.f ?_ | with_reducible refine Gd.var (fun _ => ?_) (fun _ => ?_)) <;> first | (exfalso; omega) | skip) | with_reducible refine Sq.mk ?_ | ((with_reducible show Ld1 _ _ _); first | refine Ld1.h H ?_ | refine Ld1.rF ?_ | refine Ld1.r ?_) | ((with_reducible show Ld _ _ _ _); first | refine Ld.h H ?_ | refine Ld.r ?_) | ((with_reducible show Ix _ _ _ _ _); (first | refine Ix.h ?_ | refine Ix.ha ?_)) | (refine Al.hp H ?_; clear H; intro _ _ H _) | (refine St.h H ?_; clear H; intro _ H))
  -- the slots
  refine Lp.go T.ok (σ := Nat) (fun i => [(52, .int .i64 (i : Int)), (51, .int .i64 (l.length : Int)), (50, .slice B l.length d), (1, .pointer (some ⟨pp, 0, none⟩)), (2, .pointer (some ⟨pr, 0, none⟩))])
    (fun i w' => i ≤ l.length ∧ fs1 (fun _ f => slot1 f) (fns l) 0 = fs1 (fun _ f => slot1 f) ((fns l).drop i) i ∧ Hp nw w w' [bk pr 48 (T.t48.zero.cells.toList), bk pp 46 (pv B l.length d).cells.toList]) (fun i _ => l.length - i) 0 ⟨rfl, rfl, rfl, rfl, rfl, trivial⟩ ⟨Nat.zero_le _, rfl, H⟩ ?_
  clear H
  rintro i w7 ⟨hi, hfs, H⟩
  by_cases hlt : i < l.length
  rotate_left
  have hi : i = l.length := by omega
  subst hi
  rw [fs1_end (by omega)] at hfs
  have hC3 : checkL (fns l) = (0, 0, 0) := by rw [hC2]; simp only [hfs]
  repeat' ((conv => whnf); first | (((with_reducible show Gd _ _ _); first | with_reducible refine Gd.t ?_ | with_reducible refine Gd.f ?_ | with_reducible refine Gd.dec (fun _ => ?_) (fun _ => ?_) | with_reducible refine Gd.beq (fun _ => ?_) (fun _ => ?_) | with_reducible refine Gd.bne (fun _ => ?_) (fun _ => ?_) | with_reducible refine Gd.not ?_ | refine Gd.t ?_ | refine Gd.f ?_ | with_reducible refine Gd.var (fun _ => ?_) (fun _ => ?_)) <;> first | (exfalso; omega) | skip) | with_reducible refine Sq.mk ?_ | ((with_reducible show Ld1 _ _ _); first | refine Ld1.h H ?_ | refine Ld1.rF ?_ | refine Ld1.r ?_) | ((with_reducible show Ld _ _ _ _); first | refine Ld.h H ?_ | refine Ld.r ?_) | ((with_reducible show Ix _ _ _ _ _); (first | refine Ix.h ?_ | refine Ix.ha ?_)) | (refine Al.hp H ?_; clear H; intro _ _ H _) | (refine St.h H ?_; clear H; intro _ H))
  ((conv => whnf); refine DCl.mono (check1_ret pr _) ?_; rintro _ _ ⟨rfl, hx⟩; replace H := H.ext hx; clear hx; refine ⟨rfl, ?_⟩; repeat' ((conv => whnf); first | (((with_reducible show Gd _ _ _); first | with_reducible refine Gd.t ?_ | with_reducible refine Gd.f ?_ | with_reducible refine Gd.dec (fun _ => ?_) (fun _ => ?_) | with_reducible refine Gd.beq (fun _ => ?_) (fun _ => ?_) | with_reducible refine Gd.bne (fun _ => ?_) (fun _ => ?_) | with_reducible refine Gd.not ?_ | refine Gd.t ?_ | refine Gd.f ?_ | with_reducible refine Gd.var (fun _ => ?_) (fun _ => ?_)) <;> first | (exfalso; omega) | skip) | with_reducible refine Sq.mk ?_ | ((with_reducible show Ld1 _ _ _); first | refine Ld1.h H ?_ | refine Ld1.rF ?_ | refine Ld1.r ?_) | ((with_reducible show Ld _ _ _ _); first | refine Ld.h H ?_ | refine Ld.r ?_) | ((with_reducible show Ix _ _ _ _ _); (first | refine Ix.h ?_ | refine Ix.ha ?_)) | (refine Al.hp H ?_; clear H; intro _ _ H _) | (refine St.h H ?_; clear H; intro _ H)))
  exact ⟨by rw [hC3]; rfl, H.e⟩
  · obtain ⟨x, hx⟩ : ∃ x, l[i]? = some x := ⟨_, List.getElem?_eq_getElem hlt⟩
    have hxm := List.mem_of_getElem? hx
    have hfx := fns_at hx
    have hB5 := RdS.from H.e hB.top
    repeat' ((conv => whnf); first | (((with_reducible show Gd _ _ _); first | with_reducible refine Gd.t ?_ | with_reducible refine Gd.f ?_ | with_reducible refine Gd.dec (fun _ => ?_) (fun _ => ?_) | with_reducible refine Gd.beq (fun _ => ?_) (fun _ => ?_) | with_reducible refine Gd.bne (fun _ => ?_) (fun _ => ?_) | with_reducible refine Gd.not ?_ | refine Gd.t ?_ | refine Gd.f ?_ | with_reducible refine Gd.var (fun _ => ?_) (fun _ => ?_)) <;> first | (exfalso; omega) | skip) | with_reducible refine Sq.mk ?_ | ((with_reducible show Ld1 _ _ _); first | refine Ld1.h H ?_ | refine Ld1.rF ?_ | refine Ld1.r ?_) | ((with_reducible show Ld _ _ _ _); first | refine Ld.h H ?_ | refine Ld.r ?_) | ((with_reducible show Ix _ _ _ _ _); (first | refine Ix.h ?_ | refine Ix.ha ?_)) | (refine Al.hp H ?_; clear H; intro _ _ H _) | (refine St.h H ?_; clear H; intro _ H))
    (conv => whnf)
    refine Cl.mkX (instructions_c i x.1 x.2.1 x.2.2 B l d _ (RdS.from H.e hG) (RdS.from H.e (hB.code x hxm)) (RdS.from H.e hB.top) hne (by omega) (hsh x hxm) hpar) ?_ ?_
    · rintro _ w' ⟨hb, hx1⟩
      replace H := H.ext hx1
      rw [fs1_no hfx hb] at hfs
      repeat' ((conv => whnf); first | (((with_reducible show Gd _ _ _); first | with_reducible refine Gd.t ?_ | with_reducible refine Gd.f ?_ | with_reducible refine Gd.dec (fun _ => ?_) (fun _ => ?_) | with_reducible refine Gd.beq (fun _ => ?_) (fun _ => ?_) | with_reducible refine Gd.bne (fun _ => ?_) (fun _ => ?_) | with_reducible refine Gd.not ?_ | refine Gd.t ?_ | refine Gd.f ?_ | with_reducible refine Gd.var (fun _ => ?_) (fun _ => ?_)) <;> first | (exfalso; omega) | skip) | with_reducible refine Sq.mk ?_ | ((with_reducible show Ld1 _ _ _); first | refine Ld1.h H ?_ | refine Ld1.rF ?_ | refine Ld1.r ?_) | ((with_reducible show Ld _ _ _ _); first | refine Ld.h H ?_ | refine Ld.r ?_) | ((with_reducible show Ix _ _ _ _ _); (first | refine Ix.h ?_ | refine Ix.ha ?_)) | (refine Al.hp H ?_; clear H; intro _ _ H _) | (refine St.h H ?_; clear H; intro _ H))
      exact ⟨i + 1, ⟨at_int (m := ((i + 1 : Nat) : Int)) rfl (w64 (by simp) (by omega) (by omega)), rfl, rfl, rfl, rfl, trivial⟩, rfl, ⟨by omega, hfs, H.d0⟩, by omega⟩
    · rintro _ w' ⟨e, k, hb, rfl, hx1⟩
      replace H := H.ext hx1
      rw [fs1_yes hfx hb] at hfs
      (conv => whnf)
      refine DCl.mono (check1_pan e i k pr _ _ (H.blk 1 rfl) rfl) ?_
      rintro _ w'' ⟨rfl, H'⟩
      replace H := H.updb H'
      repeat' ((conv => whnf); first | (((with_reducible show Gd _ _ _); first | with_reducible refine Gd.t ?_ | with_reducible refine Gd.f ?_ | with_reducible refine Gd.dec (fun _ => ?_) (fun _ => ?_) | with_reducible refine Gd.beq (fun _ => ?_) (fun _ => ?_) | with_reducible refine Gd.bne (fun _ => ?_) (fun _ => ?_) | with_reducible refine Gd.not ?_ | refine Gd.t ?_ | refine Gd.f ?_ | with_reducible refine Gd.var (fun _ => ?_) (fun _ => ?_)) <;> first | (exfalso; omega) | skip) | with_reducible refine Sq.mk ?_ | ((with_reducible show Ld1 _ _ _); first | refine Ld1.h H ?_ | refine Ld1.rF ?_ | refine Ld1.r ?_) | ((with_reducible show Ld _ _ _ _); first | refine Ld.h H ?_ | refine Ld.r ?_) | ((with_reducible show Ix _ _ _ _ _); (first | refine Ix.h ?_ | refine Ix.ha ?_)) | (refine Al.hp H ?_; clear H; intro _ _ H _) | (refine St.h H ?_; clear H; intro _ H))
      exact ⟨by rw [hC1]; simp only [hfs] <;> rfl, H.e⟩
  · obtain ⟨x, hx⟩ : ∃ x, l[i]? = some x := ⟨_, List.getElem?_eq_getElem hlt⟩
    have hxm := List.mem_of_getElem? hx
    have hfx := fns_at hx
    have hB5 := RdS.from H.e hB.top
    repeat' ((conv => whnf); first | (((with_reducible show Gd _ _ _); first | with_reducible refine Gd.t ?_ | with_reducible refine Gd.f ?_ | with_reducible refine Gd.dec (fun _ => ?_) (fun _ => ?_) | with_reducible refine Gd.beq (fun _ => ?_) (fun _ => ?_) | with_reducible refine Gd.bne (fun _ => ?_) (fun _ => ?_) | with_reducible refine Gd.not ?_ | refine Gd.t ?_ | refine Gd.f ?_ | with_reducible refine Gd.var (fun _ => ?_) (fun _ => ?_)) <;> first | (exfalso; omega) | skip) | with_reducible refine Sq.mk ?_ | ((with_reducible show Ld1 _ _ _); first | refine Ld1.h H ?_ | refine Ld1.rF ?_ | refine Ld1.r ?_) | ((with_reducible show Ld _ _ _ _); first | refine Ld.h H ?_ | refine Ld.r ?_) | ((with_reducible show Ix _ _ _ _ _); (first | refine Ix.h ?_ | refine Ix.ha ?_)) | (refine Al.hp H ?_; clear H; intro _ _ H _) | (refine St.h H ?_; clear H; intro _ H))
    (conv => whnf)
    refine Cl.mkX (slots_c i x.1 x.2.1 x.2.2 _ (RdS.from H.e hG) (RdS.from H.e (hB.code x hxm)) (hsd x hxm)) ?_ ?_
    · rintro _ w' ⟨hb, hx1⟩
      replace H := H.ext hx1
      rw [fs1_no hfx hb] at hfs
      repeat' ((conv => whnf); first | (((with_reducible show Gd _ _ _); first | with_reducible refine Gd.t ?_ | with_reducible refine Gd.f ?_ | with_reducible refine Gd.dec (fun _ => ?_) (fun _ => ?_) | with_reducible refine Gd.beq (fun _ => ?_) (fun _ => ?_) | with_reducible refine Gd.bne (fun _ => ?_) (fun _ => ?_) | with_reducible refine Gd.not ?_ | refine Gd.t ?_ | refine Gd.f ?_ | with_reducible refine Gd.var (fun _ => ?_) (fun _ => ?_)) <;> first | (exfalso; omega) | skip) | with_reducible refine Sq.mk ?_ | ((with_reducible show Ld1 _ _ _); first | refine Ld1.h H ?_ | refine Ld1.rF ?_ | refine Ld1.r ?_) | ((with_reducible show Ld _ _ _ _); first | refine Ld.h H ?_ | refine Ld.r ?_) | ((with_reducible show Ix _ _ _ _ _); (first | refine Ix.h ?_ | refine Ix.ha ?_)) | (refine Al.hp H ?_; clear H; intro _ _ H _) | (refine St.h H ?_; clear H; intro _ H))
      exact ⟨i + 1, ⟨at_int (m := ((i + 1 : Nat) : Int)) rfl (w64 (by simp) (by omega) (by omega)), rfl, rfl, rfl, rfl, trivial⟩, rfl, ⟨by omega, hfs, H.d0⟩, by omega⟩
    · rintro _ w' ⟨e, k, hb, rfl, hx1⟩
      replace H := H.ext hx1
      rw [fs1_yes hfx hb] at hfs
      (conv => whnf)
      refine DCl.mono (check1_pan e i k pr _ _ (H.blk 1 rfl) rfl) ?_
      rintro _ w'' ⟨rfl, H'⟩
      replace H := H.updb H'
      repeat' ((conv => whnf); first | (((with_reducible show Gd _ _ _); first | with_reducible refine Gd.t ?_ | with_reducible refine Gd.f ?_ | with_reducible refine Gd.dec (fun _ => ?_) (fun _ => ?_) | with_reducible refine Gd.beq (fun _ => ?_) (fun _ => ?_) | with_reducible refine Gd.bne (fun _ => ?_) (fun _ => ?_) | with_reducible refine Gd.not ?_ | refine Gd.t ?_ | refine Gd.f ?_ | with_reducible refine Gd.var (fun _ => ?_) (fun _ => ?_)) <;> first | (exfalso; omega) | skip) | with_reducible refine Sq.mk ?_ | ((with_reducible show Ld1 _ _ _); first | refine Ld1.h H ?_ | refine Ld1.rF ?_ | refine Ld1.r ?_) | ((with_reducible show Ld _ _ _ _); first | refine Ld.h H ?_ | refine Ld.r ?_) | ((with_reducible show Ix _ _ _ _ _); (first | refine Ix.h ?_ | refine Ix.ha ?_)) | (refine Al.hp H ?_; clear H; intro _ _ H _) | (refine St.h H ?_; clear H; intro _ H))
      exact ⟨by rw [hC2]; simp only [hfs] <;> rfl, H.e⟩
end Go.Proofs.YtbbadmlekagloaaDoor
