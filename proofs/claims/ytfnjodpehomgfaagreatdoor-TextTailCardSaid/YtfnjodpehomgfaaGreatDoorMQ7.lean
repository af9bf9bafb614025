/- own work: TzT, TyS, TyT, ShQ, TyU, PtA, PtC -/
import Derived.Shelf.Strconv.Itoa4
import Derived.ReadAgain
import Derived.ChangeArms
import Derived.ChangeSame
import Derived.ChangeShapes
import Derived.Lib.LaidTab
import Derived.Test.YtfnjodpehomgfaaGreatDoorRows
import Derived.OpenShut
import Derived.LaidLaws
import Derived.Test.YtfnjodpehomgfaaGreatDoorCards
import Derived.Test.YtfnjodpehomgfaaGreatDoorTie
import Derived.DataShut
import Derived.ProofKit
import Derived.LaidHandle
import Derived.Stop.LaidErr
import Derived.Deep.DeepHandedRow
import Derived.Deep.DeepWitnessRowRef
import Derived.Test.YtfnjodpehomgfaaGreatDoorMQ6
set_option linter.unusedVariables false
set_option linter.unusedSimpArgs false
set_option linter.unusedSectionVars false
namespace Go.Proofs.YtfnjodpehomgfaaGreatDoor
open Go Go.Sh Go.Tx
attribute [local irreducible] Blk Ext RdS
def RdC (w : World) : Prop := RdS (fun b : Bs => [Value.string (bs b)]) 1 w (some ⟨1, 0, none⟩) CL
theorem pr_short {l : Bs} (h : l.length ≤ 16384) : PR l = parseP l (fuelOf l) := by unfold PR; rw [if_neg (by omega)]
theorem good_at {l : Bs} {S : List Sy} (h : At l S) (hl : l.length ≤ 16384) : (errOf (PR l) = 0 ∧ ∃ a ts, PR l = .ok a ts) ∨ (errOf (PR l) = 141 ∧ plcOf (PR l) = l.length ∧ go S k_end = .err 141) := by
  rw [pr_short hl]
  rcases at_end h with ⟨a, ts, h1⟩ | ⟨h1, h2⟩
  · exact .inl ⟨by rw [h1]; rfl, a, ts, h1⟩
  · exact .inr ⟨by rw [h1]; rfl, by rw [h1]; rfl, h2⟩
set_option maxHeartbeats 4000000 in
theorem closer_c (l : Bs) (S : List Sy) (w : World) (hG : Rg w) (hC : RdC w) (hl : l.length ≤ 16000) (hA : At l S) (hb : go S k_end = .err 141) :
    Cl Tryz.prog 37 #[.string (bs l)] w (fun v w' => ∃ i S', i < 10 ∧ At (l ++ 10 :: clo i) S' ∧ wt S' + 1 ≤ wt S ∧ v = .tuple #[.string (bs (10 :: clo i)), .agg #[.int .i64 (errOf (PR (l ++ 10 :: clo i))), .int .i64 (plcOf (PR (l ++ 10 :: clo i)) : Int)], .bool true] ∧ Ext w w') (fun _ _ => False) := by
  obtain ⟨i0, S', hi0, hbad, hA', hwt⟩ := tail_next hA hb
  refine calls_ex (args := [.string (bs l)]) T.ok Tryz.func37 rfl rfl rfl rfl ?_
  have H := Hp.begin nw w
  refine Sq.mk ?_
  repeat' ((conv => whnf); first | (((with_reducible show Gd ..); first | (with_reducible first | refine Gd.t ?_ | refine Gd.f ?_ | (first | apply Gd.dec | apply Gd.beq | apply Gd.bne) <;> intro _ | refine Gd.not ?_) | refine Gd.t ?_ | refine Gd.f ?_ | apply Gd.var <;> intro _) <;> try (exfalso; omega)) | with_reducible refine Sq.mk ?_ | ((with_reducible show Ld1 ..); first | refine Ld1.h H ?_ | refine Ld1.rF ?_ | refine Ld1.r ?_) | ((with_reducible show Ld ..); first | refine Ld.h H ?_ | refine Ld.r ?_) | ((with_reducible show Ix ..); first | refine Ix.h ?_ | refine Ix.ha ?_) | (refine St.h H ?_; clear H; intro _ H))
  ((conv => whnf); refine Al.hp H ?_; clear H; intro p3 _ H _)
  repeat' ((conv => whnf); first | (((with_reducible show Gd ..); first | (with_reducible first | refine Gd.t ?_ | refine Gd.f ?_ | (first | apply Gd.dec | apply Gd.beq | apply Gd.bne) <;> intro _ | refine Gd.not ?_) | refine Gd.t ?_ | refine Gd.f ?_ | apply Gd.var <;> intro _) <;> try (exfalso; omega)) | with_reducible refine Sq.mk ?_ | ((with_reducible show Ld1 ..); first | refine Ld1.h H ?_ | refine Ld1.rF ?_ | refine Ld1.r ?_) | ((with_reducible show Ld ..); first | refine Ld.h H ?_ | refine Ld.r ?_) | ((with_reducible show Ix ..); first | refine Ix.h ?_ | refine Ix.ha ?_) | (refine St.h H ?_; clear H; intro _ H))
  (conv => whnf)
  refine Ld.all (RdS.from H.e hC) ?_
  repeat' ((conv => whnf); first | (((with_reducible show Gd ..); first | (with_reducible first | refine Gd.t ?_ | refine Gd.f ?_ | (first | apply Gd.dec | apply Gd.beq | apply Gd.bne) <;> intro _ | refine Gd.not ?_) | refine Gd.t ?_ | refine Gd.f ?_ | apply Gd.var <;> intro _) <;> try (exfalso; omega)) | with_reducible refine Sq.mk ?_ | ((with_reducible show Ld1 ..); first | refine Ld1.h H ?_ | refine Ld1.rF ?_ | refine Ld1.r ?_) | ((with_reducible show Ld ..); first | refine Ld.h H ?_ | refine Ld.r ?_) | ((with_reducible show Ix ..); first | refine Ix.h ?_ | refine Ix.ha ?_) | (refine St.h H ?_; clear H; intro _ H))
  refine Lp.g0 T.ok (σ := Nat) (fun i => [(11, .int .i64 (i : Int)), (10, .agg (CL.map fun b => Value.string (bs b)).toArray), (3, .pointer (some ⟨p3, 0, none⟩)), (0, .string (bs l))])
    (fun i w' => i ≤ i0 ∧ Hp nw w w' [bk p3 27 [.int .i64 0, .int .i64 0]]) (fun i _ => 10 - i) 0 rfl ⟨rfl, rfl, rfl, rfl, trivial⟩ ⟨Nat.zero_le _, H⟩ ?_
  clear H
  rintro i w5 ⟨hi, H⟩
  have hlt : i < 10 := by omega
  have hcl := clo_pos i hlt
  have hx : CL[i]? = some (clo i) := by
    have : ∀ i, i < 10 → CL[i]? = some (clo i) := by decide
    exact this i hlt
  repeat' ((conv => whnf); first | (((with_reducible show Gd ..); first | (with_reducible first | refine Gd.t ?_ | refine Gd.f ?_ | (first | apply Gd.dec | apply Gd.beq | apply Gd.bne) <;> intro _ | refine Gd.not ?_) | refine Gd.t ?_ | refine Gd.f ?_ | apply Gd.var <;> intro _) <;> try (exfalso; omega)) | with_reducible refine Sq.mk ?_ | ((with_reducible show Ld1 ..); first | refine Ld1.h H ?_ | refine Ld1.rF ?_ | refine Ld1.r ?_) | ((with_reducible show Ld ..); first | refine Ld.h H ?_ | refine Ld.r ?_) | ((with_reducible show Ix ..); first | refine Ix.h ?_ | refine Ix.ha ?_) | (refine St.h H ?_; clear H; intro _ H))
  refine Sm.arrix T.ok (v := .string (bs (clo i))) (by simp [hx]) hlt ?_
  repeat' ((conv => whnf); first | (((with_reducible show Gd ..); first | (with_reducible first | refine Gd.t ?_ | refine Gd.f ?_ | (first | apply Gd.dec | apply Gd.beq | apply Gd.bne) <;> intro _ | refine Gd.not ?_) | refine Gd.t ?_ | refine Gd.f ?_ | apply Gd.var <;> intro _) <;> try (exfalso; omega)) | with_reducible refine Sq.mk ?_ | ((with_reducible show Ld1 ..); first | refine Ld1.h H ?_ | refine Ld1.rF ?_ | refine Ld1.r ?_) | ((with_reducible show Ld ..); first | refine Ld.h H ?_ | refine Ld.r ?_) | ((with_reducible show Ix ..); first | refine Ix.h ?_ | refine Ix.ha ?_) | (refine St.h H ?_; clear H; intro _ H))
  refine Sm.cat (l := [10]) (m := clo i) (by simp; omega) ?_
  repeat' ((conv => whnf); first | (((with_reducible show Gd ..); first | (with_reducible first | refine Gd.t ?_ | refine Gd.f ?_ | (first | apply Gd.dec | apply Gd.beq | apply Gd.bne) <;> intro _ | refine Gd.not ?_) | refine Gd.t ?_ | refine Gd.f ?_ | apply Gd.var <;> intro _) <;> try (exfalso; omega)) | with_reducible refine Sq.mk ?_ | ((with_reducible show Ld1 ..); first | refine Ld1.h H ?_ | refine Ld1.rF ?_ | refine Ld1.r ?_) | ((with_reducible show Ld ..); first | refine Ld.h H ?_ | refine Ld.r ?_) | ((with_reducible show Ix ..); first | refine Ix.h ?_ | refine Ix.ha ?_) | (refine St.h H ?_; clear H; intro _ H))
  refine Sm.cat (l := l) (m := 10 :: clo i) (by simp; omega) ?_
  repeat' ((conv => whnf); first | (((with_reducible show Gd ..); first | (with_reducible first | refine Gd.t ?_ | refine Gd.f ?_ | (first | apply Gd.dec | apply Gd.beq | apply Gd.bne) <;> intro _ | refine Gd.not ?_) | refine Gd.t ?_ | refine Gd.f ?_ | apply Gd.var <;> intro _) <;> try (exfalso; omega)) | with_reducible refine Sq.mk ?_ | ((with_reducible show Ld1 ..); first | refine Ld1.h H ?_ | refine Ld1.rF ?_ | refine Ld1.r ?_) | ((with_reducible show Ld ..); first | refine Ld.h H ?_ | refine Ld.r ?_) | ((with_reducible show Ix ..); first | refine Ix.h ?_ | refine Ix.ha ?_) | (refine St.h H ?_; clear H; intro _ H))
  ((conv => whnf); refine Cl.mk (Parse_c (l ++ 10 :: clo i) _ (hG.ext H.e)) ?_)
  intro v2 w2 q2
  obtain ⟨m2, A2, c2, e2, rfl, l2, H'⟩ := okq q2
  clear q2
  replace H := H.fr0L H' (fun c hc => by simp only [List.mem_cons, List.not_mem_nil, or_false] at hc; rcases hc with rfl | rfl <;> exact .inl rfl)
  clear H'
  have hlen : (l ++ 10 :: clo i).length = l.length + 1 + (clo i).length := by simp; omega
  have hlen2 : (bs (10 :: clo i)).size = 1 + (clo i).length := by rw [bs_size]; simp; omega
  have hlenl := bs_size l
  generalize hE : errOf (PR (l ++ 10 :: clo i)) = E at *
  generalize hP : plcOf (PR (l ++ 10 :: clo i)) = Pp at *
  have hcase : (i < i0 ∧ E ≠ 0 ∧ Pp = l.length + 1) ∨ (i = i0 ∧ (E = 0 ∨ E = 141 ∧ Pp = l.length + 1 + (clo i).length)) := by
    by_cases hii : i = i0
    · refine .inr ⟨hii, ?_⟩
      subst hii
      rcases good_at hA' (by omega) with ⟨g1, _⟩ | ⟨g1, g2, _⟩
      · exact .inl (by rw [← hE]; exact g1)
      · exact .inr ⟨by rw [← hE]; exact g1, by rw [← hP, g2, hlen]⟩
    · obtain ⟨e, he0, hpe⟩ := hbad i (by omega)
      refine .inl ⟨by omega, ?_, ?_⟩
      · rw [← hE, pr_short (by omega), hpe]; exact he0
      · rw [← hP, pr_short (by omega), hpe]; rfl
  have hwrap : IntKind.i64.wrap (((bs l).size : Int) + ((bs ([10] ++ clo i)).size : Int)) = ((l.length + 1 + (clo i).length : Nat) : Int) := by
    have h1 : (bs ([10] ++ clo i)).size = 1 + (clo i).length := hlen2
    rw [hlenl, h1]
    simp [IntKind.wrap, IntKind.signed, IntKind.bits] <;> omega
  clear hbad
  repeat' ((conv => whnf); first | (((with_reducible show Gd ..); first | (with_reducible first | refine Gd.t ?_ | refine Gd.f ?_ | (first | apply Gd.dec | apply Gd.beq | apply Gd.bne) <;> intro _ | refine Gd.not ?_) | refine Gd.t ?_ | refine Gd.f ?_ | apply Gd.var <;> intro _) <;> try (exfalso; omega)) | with_reducible refine Sq.mk ?_ | ((with_reducible show Ld1 ..); first | refine Ld1.h H ?_ | refine Ld1.rF ?_ | refine Ld1.r ?_) | ((with_reducible show Ld ..); first | refine Ld.h H ?_ | refine Ld.r ?_) | ((with_reducible show Ix ..); first | refine Ix.h ?_ | refine Ix.ha ?_) | (refine St.h H ?_; clear H; intro _ H))
  ((conv => whnf); refine Al.hp H ?_; clear H; intro p5 _ H _)
  ((conv => whnf); refine Al.hp H ?_; clear H; intro p6 _ H _)
  repeat' ((conv => whnf); first | (((with_reducible show Gd ..); first | (with_reducible first | refine Gd.t ?_ | refine Gd.f ?_ | (first | apply Gd.dec | apply Gd.beq | apply Gd.bne) <;> intro _ | refine Gd.not ?_) | refine Gd.t ?_ | refine Gd.f ?_ | apply Gd.var <;> intro _) <;> try (exfalso; omega)) | with_reducible refine Sq.mk ?_ | ((with_reducible show Ld1 ..); first | refine Ld1.h H ?_ | refine Ld1.rF ?_ | refine Ld1.r ?_) | ((with_reducible show Ld ..); first | refine Ld.h H ?_ | refine Ld.r ?_) | ((with_reducible show Ix ..); first | refine Ix.h ?_ | refine Ix.ha ?_) | (refine St.h H ?_; clear H; intro _ H))
  all_goals first | (exfalso; omega) | skip
  rotate_left 2
  iterate 2
    · repeat' ((conv => whnf); first | (((with_reducible show Gd ..); first | (with_reducible first | refine Gd.t ?_ | refine Gd.f ?_ | (first | apply Gd.dec | apply Gd.beq | apply Gd.bne) <;> intro _ | refine Gd.not ?_) | refine Gd.t ?_ | refine Gd.f ?_ | apply Gd.var <;> intro _) <;> try (exfalso; omega)) | with_reducible refine Sq.mk ?_ | ((with_reducible show Ld1 ..); first | refine Ld1.h H ?_ | refine Ld1.rF ?_ | refine Ld1.r ?_) | ((with_reducible show Ld ..); first | refine Ld.h H ?_ | refine Ld.r ?_) | ((with_reducible show Ix ..); first | refine Ix.h ?_ | refine Ix.ha ?_) | (refine St.h H ?_; clear H; intro _ H))
      exact ⟨i + 1, ⟨at_int (m := ((i + 1 : Nat) : Int)) rfl (w64 (by simp) (by omega) (by omega)), rfl, rfl, rfl, trivial⟩, rfl, ⟨by omega, H.sel [4] rfl⟩, by omega⟩
  all_goals
    (have hii : i = i0 := by omega)
    subst hii
    (conv => whnf)
    refine Dr.ch T.ok mixed [0, 1, 2] [3, 4] (by kernel_rfl) rfl rfl (fun w' => Blk w' p6 27 [.int .i64 E, .int .i64 (Pp : Int)]) (fun w1 eT _ => ?_)
    replace H := H.ext eT
    repeat' ((conv => whnf); first | refine QLd1.own (fun _ hw => hw) ?_ | refine QLd.own (fun _ hw => hw) ?_)
    (conv => whnf)
    refine ⟨H.blk 0 rfl, ?_⟩
    refine St.h H (fun w2 H => ?_)
    (conv => whnf)
    refine ⟨H.blk 0 rfl, ?_⟩
    repeat' ((conv => whnf); first | (((with_reducible show Gd ..); first | (with_reducible first | refine Gd.t ?_ | refine Gd.f ?_ | (first | apply Gd.dec | apply Gd.beq | apply Gd.bne) <;> intro _ | refine Gd.not ?_) | refine Gd.t ?_ | refine Gd.f ?_ | apply Gd.var <;> intro _) <;> try (exfalso; omega)) | with_reducible refine Sq.mk ?_ | ((with_reducible show Ld1 ..); first | refine Ld1.h H ?_ | refine Ld1.rF ?_ | refine Ld1.r ?_) | ((with_reducible show Ld ..); first | refine Ld.h H ?_ | refine Ld.r ?_) | ((with_reducible show Ix ..); first | refine Ix.h ?_ | refine Ix.ha ?_) | (refine Al.hp H ?_; clear H; intro _ _ H _) | (refine St.h H ?_; clear H; intro _ H))
    exact ⟨i, S', hi0, hA', hwt, by rw [hE, hP]; rfl, H.e⟩
theorem pr_err {l : Bs} {q : Nat} (h1 : errOf (PR l) = 141) (h2 : plcOf (PR l) = q) : PR l = .err 141 q := by
  cases hR : PR l with
  | out => rw [hR] at h1; exact absurd (show (0 : Int) = 141 from h1) (by decide)
  | ok a ts => rw [hR] at h1; exact absurd (show (0 : Int) = 141 from h1) (by decide)
  | err e p =>
    rw [hR] at h1 h2
    have h1 : e = 141 := h1
    have h2 : p = q := h2
    rw [h1, h2]
def TailIs (l tl : Bs) (e : Int) : Prop :=
  (8192 < l.length ∧ tl = [] ∧ e = 2) ∨ (l.length ≤ 8192 ∧ ¬ (errOf (PR l) = 141 ∧ plcOf (PR l) = l.length) ∧ tl = [] ∧ e = errOf (PR l)) ∨
  (l.length ≤ 8192 ∧ errOf (PR l) = 141 ∧ plcOf (PR l) = l.length ∧ e = 0 ∧ tl.length ≤ 8192 ∧ errOf (PR (l ++ tl)) = 0 ∧ ∃ a ts, PR (l ++ tl) = .ok a ts)
set_option maxHeartbeats 4000000 in
theorem tail_c (l : Bs) (w : World) (hG : Rg w) (hC : RdC w) :
    Cl Tryz.prog 15 #[.string (bs l)] w (fun v w' => ∃ tl e, TailIs l tl e ∧ v = .tuple #[.string (bs tl), .int .i64 e] ∧ Ext w w') (fun _ _ => False) := by
  refine calls_ex (args := [.string (bs l)]) T.ok Tryz.func15 rfl rfl rfl rfl ?_
  have H := Hp.begin nw w
  have hlenl := bs_size l
  by_cases hlong : 8192 < l.length
  · repeat' ((conv => whnf); first | (((with_reducible show Gd ..); first | (with_reducible first | refine Gd.t ?_ | refine Gd.f ?_ | (first | apply Gd.dec | apply Gd.beq | apply Gd.bne) <;> intro _ | refine Gd.not ?_) | refine Gd.t ?_ | refine Gd.f ?_ | apply Gd.var <;> intro _) <;> try (exfalso; omega)) | with_reducible refine Sq.mk ?_ | ((with_reducible show Ld1 ..); first | refine Ld1.h H ?_ | refine Ld1.rF ?_ | refine Ld1.r ?_) | ((with_reducible show Ld ..); first | refine Ld.h H ?_ | refine Ld.r ?_) | ((with_reducible show Ix ..); first | refine Ix.h ?_ | refine Ix.ha ?_) | (refine St.h H ?_; clear H; intro _ H))
    all_goals first | (exfalso; omega) | skip
    exact ⟨[], 2, .inl ⟨hlong, rfl, rfl⟩, rfl, H.e⟩
  have hl : l.length ≤ 8192 := by omega
  repeat' ((conv => whnf); first | (((with_reducible show Gd ..); first | (with_reducible first | refine Gd.t ?_ | refine Gd.f ?_ | (first | apply Gd.dec | apply Gd.beq | apply Gd.bne) <;> intro _ | refine Gd.not ?_) | refine Gd.t ?_ | refine Gd.f ?_ | apply Gd.var <;> intro _) <;> try (exfalso; omega)) | with_reducible refine Sq.mk ?_ | ((with_reducible show Ld1 ..); first | refine Ld1.h H ?_ | refine Ld1.rF ?_ | refine Ld1.r ?_) | ((with_reducible show Ld ..); first | refine Ld.h H ?_ | refine Ld.r ?_) | ((with_reducible show Ix ..); first | refine Ix.h ?_ | refine Ix.ha ?_) | (refine St.h H ?_; clear H; intro _ H))
  all_goals first | (exfalso; omega) | skip
  ((conv => whnf); refine Cl.mk (Parse_c l _ (hG.ext H.e)) ?_)
  intro v2 w2 q2
  obtain ⟨m2, A2, c2, e2, rfl, l2, H'⟩ := okq q2
  clear q2
  replace H := H.fr0L H' (fun c hc => by simp only [List.mem_cons, List.not_mem_nil, or_false] at hc; rcases hc with rfl | rfl <;> exact .inl rfl)
  clear H'
  obtain ⟨E, hE⟩ : ∃ E, E = errOf (PR l) := ⟨_, rfl⟩
  obtain ⟨Pp, hP⟩ : ∃ P, P = plcOf (PR l) := ⟨_, rfl⟩
  rw [← hE, ← hP]
  repeat' ((conv => whnf); first | (((with_reducible show Gd ..); first | (with_reducible first | refine Gd.t ?_ | refine Gd.f ?_ | (first | apply Gd.dec | apply Gd.beq | apply Gd.bne) <;> intro _ | refine Gd.not ?_) | refine Gd.t ?_ | refine Gd.f ?_ | apply Gd.var <;> intro _) <;> try (exfalso; omega)) | with_reducible refine Sq.mk ?_ | ((with_reducible show Ld1 ..); first | refine Ld1.h H ?_ | refine Ld1.rF ?_ | refine Ld1.r ?_) | ((with_reducible show Ld ..); first | refine Ld.h H ?_ | refine Ld.r ?_) | ((with_reducible show Ix ..); first | refine Ix.h ?_ | refine Ix.ha ?_) | (refine St.h H ?_; clear H; intro _ H))
  ((conv => whnf); refine Al.hp H ?_; clear H; intro p4 _ H _)
  ((conv => whnf); refine Al.hp H ?_; clear H; intro p5 _ H _)
  repeat' ((conv => whnf); first | (((with_reducible show Gd ..); first | (with_reducible first | refine Gd.t ?_ | refine Gd.f ?_ | (first | apply Gd.dec | apply Gd.beq | apply Gd.bne) <;> intro _ | refine Gd.not ?_) | refine Gd.t ?_ | refine Gd.f ?_ | apply Gd.var <;> intro _) <;> try (exfalso; omega)) | with_reducible refine Sq.mk ?_ | ((with_reducible show Ld1 ..); first | refine Ld1.h H ?_ | refine Ld1.rF ?_ | refine Ld1.r ?_) | ((with_reducible show Ld ..); first | refine Ld.h H ?_ | refine Ld.r ?_) | ((with_reducible show Ix ..); first | refine Ix.h ?_ | refine Ix.ha ?_) | (refine St.h H ?_; clear H; intro _ H))
  · have h0 : E = 0 := by assumption
    repeat' ((conv => whnf); first | (((with_reducible show Gd ..); first | (with_reducible first | refine Gd.t ?_ | refine Gd.f ?_ | (first | apply Gd.dec | apply Gd.beq | apply Gd.bne) <;> intro _ | refine Gd.not ?_) | refine Gd.t ?_ | refine Gd.f ?_ | apply Gd.var <;> intro _) <;> try (exfalso; omega)) | with_reducible refine Sq.mk ?_ | ((with_reducible show Ld1 ..); first | refine Ld1.h H ?_ | refine Ld1.rF ?_ | refine Ld1.r ?_) | ((with_reducible show Ld ..); first | refine Ld.h H ?_ | refine Ld.r ?_) | ((with_reducible show Ix ..); first | refine Ix.h ?_ | refine Ix.ha ?_) | (refine St.h H ?_; clear H; intro _ H))
    refine ⟨[], 0, .inr (.inl ⟨hl, ?_, rfl, by rw [← hE, h0]⟩), rfl, H.e⟩
    rintro ⟨h1, _⟩
    rw [← hE] at h1
    omega
  · have h0 : E ≠ 141 := by assumption
    ((conv => whnf); refine Dr.quiet T.ok mixed (by kernel_rfl) (fun W hW => ?_))
    repeat' ((conv => whnf); first | (((with_reducible show Gd ..); first | (with_reducible first | refine Gd.t ?_ | refine Gd.f ?_ | (first | apply Gd.dec | apply Gd.beq | apply Gd.bne) <;> intro _ | refine Gd.not ?_) | refine Gd.t ?_ | refine Gd.f ?_ | apply Gd.var <;> intro _) <;> try (exfalso; omega)) | ((with_reducible show QLd1 ..); first | refine QLd1.h hW H ?_ | refine QLd1.rF hW ?_ | refine QLd1.r hW ?_) | ((with_reducible show QLd ..); first | refine QLd.h hW H ?_ | refine QLd.r hW ?_) | ((with_reducible show Ix ..); first | refine Ix.h ?_ | refine Ix.ha ?_))
    intro w9 ex9
    replace H := H.ext ex9
    repeat' ((conv => whnf); first | (((with_reducible show Gd ..); first | (with_reducible first | refine Gd.t ?_ | refine Gd.f ?_ | (first | apply Gd.dec | apply Gd.beq | apply Gd.bne) <;> intro _ | refine Gd.not ?_) | refine Gd.t ?_ | refine Gd.f ?_ | apply Gd.var <;> intro _) <;> try (exfalso; omega)) | with_reducible refine Sq.mk ?_ | ((with_reducible show Ld1 ..); first | refine Ld1.h H ?_ | refine Ld1.rF ?_ | refine Ld1.r ?_) | ((with_reducible show Ld ..); first | refine Ld.h H ?_ | refine Ld.r ?_) | ((with_reducible show Ix ..); first | refine Ix.h ?_ | refine Ix.ha ?_) | (refine St.h H ?_; clear H; intro _ H))
    refine ⟨[], E, .inr (.inl ⟨hl, ?_, rfl, hE⟩), rfl, H.e⟩
    rintro ⟨h1, _⟩
    rw [← hE] at h1
    omega
  · have h0 : (Pp : Int) ≠ ((bs l).size : Int) := by assumption
    ((conv => whnf); refine Dr.quiet T.ok mixed (by kernel_rfl) (fun W hW => ?_))
    repeat' ((conv => whnf); first | (((with_reducible show Gd ..); first | (with_reducible first | refine Gd.t ?_ | refine Gd.f ?_ | (first | apply Gd.dec | apply Gd.beq | apply Gd.bne) <;> intro _ | refine Gd.not ?_) | refine Gd.t ?_ | refine Gd.f ?_ | apply Gd.var <;> intro _) <;> try (exfalso; omega)) | ((with_reducible show QLd1 ..); first | refine QLd1.h hW H ?_ | refine QLd1.rF hW ?_ | refine QLd1.r hW ?_) | ((with_reducible show QLd ..); first | refine QLd.h hW H ?_ | refine QLd.r hW ?_) | ((with_reducible show Ix ..); first | refine Ix.h ?_ | refine Ix.ha ?_))
    intro w9 ex9
    replace H := H.ext ex9
    repeat' ((conv => whnf); first | (((with_reducible show Gd ..); first | (with_reducible first | refine Gd.t ?_ | refine Gd.f ?_ | (first | apply Gd.dec | apply Gd.beq | apply Gd.bne) <;> intro _ | refine Gd.not ?_) | refine Gd.t ?_ | refine Gd.f ?_ | apply Gd.var <;> intro _) <;> try (exfalso; omega)) | with_reducible refine Sq.mk ?_ | ((with_reducible show Ld1 ..); first | refine Ld1.h H ?_ | refine Ld1.rF ?_ | refine Ld1.r ?_) | ((with_reducible show Ld ..); first | refine Ld.h H ?_ | refine Ld.r ?_) | ((with_reducible show Ix ..); first | refine Ix.h ?_ | refine Ix.ha ?_) | (refine St.h H ?_; clear H; intro _ H))
    refine ⟨[], E, .inr (.inl ⟨hl, ?_, rfl, hE⟩), rfl, H.e⟩
    rintro ⟨_, h1⟩
    rw [← hP] at h1
    omega
  · have h0 : E = 141 := by assumption
    have h1 : (Pp : Int) = ((bs l).size : Int) := by assumption
    have hPl : Pp = l.length := by omega
    have hR := pr_err (l := l) (q := l.length) (by rw [← hE]; exact h0) (by rw [← hP]; exact hPl)
    have hR2 := hR
    rw [pr_short (by omega)] at hR2
    obtain ⟨S, hA⟩ := at_start ((parse_of_run l).2.2 _ _ hR2)
    have hwt := inv_wt hA.inv
    have hf0 : ∀ w', Hp nw w w' (bk p5 27 (putL T.t27.zero.cells.toList 0 (Value.agg #[Value.int IntKind.i64 E, Value.int IntKind.i64 (Pp : Int)]).cells.toList) :: bk p4 24 (putL T.t24.zero.cells.toList 0 (Value.agg #[Value.slice A2 m2.length c2]).cells.toList) :: ([qu FM.enc 3 34 A2 c2 m2, fns m2] ++ [])) → Hp nw w w' [bk p5 27 [.int .i64 E, .int .i64 (Pp : Int)]] := fun _ h => h.sel [0] rfl
    replace H := hf0 _ H
    clear hf0
    refine Lp.g0 T.ok (σ := Bs × List Sy) (fun s => [(6, .string (bs s.1)), (5, .pointer (some ⟨p5, 0, none⟩)), (0, .string (bs l))])
      (fun s w' => At (l ++ s.1) s.2 ∧ s.1.length + 3 * wt s.2 ≤ 5010 ∧ Hp nw w w' [bk p5 27 [.int .i64 (errOf (PR (l ++ s.1))), .int .i64 (plcOf (PR (l ++ s.1)) : Int)]]) (fun s _ => wt s.2) ([], S) rfl ⟨rfl, rfl, rfl, trivial⟩ ⟨by rw [List.append_nil]; exact hA, by simp only [List.length_nil]; omega, by rw [List.append_nil, ← hE, ← hP]; exact H⟩ ?_
    clear H
    rintro ⟨tl, S1⟩ w5 ⟨hA1, hb1, H⟩
    replace hA1 : At (l ++ tl) S1 := hA1
    replace hb1 : tl.length + 3 * wt S1 ≤ 5010 := hb1
    dsimp only at H
    have hlt : (l ++ tl).length ≤ 13300 := by rw [List.length_append]; omega
    rcases good_at hA1 (by omega) with ⟨g1, g2⟩ | ⟨g1, g2, g3⟩
    · have hz : errOf (PR (l ++ tl)) = 0 := g1
      repeat' ((conv => whnf); first | (((with_reducible show Gd ..); first | (with_reducible first | refine Gd.t ?_ | refine Gd.f ?_ | (first | apply Gd.dec | apply Gd.beq | apply Gd.bne) <;> intro _ | refine Gd.not ?_) | refine Gd.t ?_ | refine Gd.f ?_ | apply Gd.var <;> intro _) <;> try (exfalso; omega)) | with_reducible refine Sq.mk ?_ | ((with_reducible show Ld1 ..); first | refine Ld1.h H ?_ | refine Ld1.rF ?_ | refine Ld1.r ?_) | ((with_reducible show Ld ..); first | refine Ld.h H ?_ | refine Ld.r ?_) | ((with_reducible show Ix ..); first | refine Ix.h ?_ | refine Ix.ha ?_) | (refine St.h H ?_; clear H; intro _ H))
      all_goals first | (exfalso; exact absurd hz (by assumption)) | skip
      exact ⟨tl, 0, .inr (.inr ⟨hl, by rw [← hE]; exact h0, by rw [← hP]; exact hPl, rfl, by omega, g1, g2⟩), rfl, H.e⟩
    · repeat' ((conv => whnf); first | (((with_reducible show Gd ..); first | (with_reducible first | refine Gd.t ?_ | refine Gd.f ?_ | (first | apply Gd.dec | apply Gd.beq | apply Gd.bne) <;> intro _ | refine Gd.not ?_) | refine Gd.t ?_ | refine Gd.f ?_ | apply Gd.var <;> intro _) <;> try (exfalso; omega)) | with_reducible refine Sq.mk ?_ | ((with_reducible show Ld1 ..); first | refine Ld1.h H ?_ | refine Ld1.rF ?_ | refine Ld1.r ?_) | ((with_reducible show Ld ..); first | refine Ld.h H ?_ | refine Ld.r ?_) | ((with_reducible show Ix ..); first | refine Ix.h ?_ | refine Ix.ha ?_) | (refine St.h H ?_; clear H; intro _ H))
      all_goals first | (exfalso; omega) | skip
      refine Sm.cat (l := l) (m := tl) (by rw [← List.length_append]; omega) ?_
      repeat' ((conv => whnf); first | (((with_reducible show Gd ..); first | (with_reducible first | refine Gd.t ?_ | refine Gd.f ?_ | (first | apply Gd.dec | apply Gd.beq | apply Gd.bne) <;> intro _ | refine Gd.not ?_) | refine Gd.t ?_ | refine Gd.f ?_ | apply Gd.var <;> intro _) <;> try (exfalso; omega)) | with_reducible refine Sq.mk ?_ | ((with_reducible show Ld1 ..); first | refine Ld1.h H ?_ | refine Ld1.rF ?_ | refine Ld1.r ?_) | ((with_reducible show Ld ..); first | refine Ld.h H ?_ | refine Ld.r ?_) | ((with_reducible show Ix ..); first | refine Ix.h ?_ | refine Ix.ha ?_) | (refine St.h H ?_; clear H; intro _ H))
      ((conv => whnf); refine Cl.mk (closer_c (l ++ tl) S1 _ (hG.ext H.e) (RdS.from H.e hC) (by omega) hA1 g3) ?_)
      rintro _ w6 ⟨i, S2, hi, hA2, hw2, rfl, ex⟩
      replace H := H.ext ex
      clear ex
      have hcl := clo_pos i hi
      repeat' ((conv => whnf); first | (((with_reducible show Gd ..); first | (with_reducible first | refine Gd.t ?_ | refine Gd.f ?_ | (first | apply Gd.dec | apply Gd.beq | apply Gd.bne) <;> intro _ | refine Gd.not ?_) | refine Gd.t ?_ | refine Gd.f ?_ | apply Gd.var <;> intro _) <;> try (exfalso; omega)) | with_reducible refine Sq.mk ?_ | ((with_reducible show Ld1 ..); first | refine Ld1.h H ?_ | refine Ld1.rF ?_ | refine Ld1.r ?_) | ((with_reducible show Ld ..); first | refine Ld.h H ?_ | refine Ld.r ?_) | ((with_reducible show Ix ..); first | refine Ix.h ?_ | refine Ix.ha ?_) | (refine St.h H ?_; clear H; intro _ H))
      ((conv => whnf); refine Al.hp H ?_; clear H; intro p8 _ H _)
      repeat' ((conv => whnf); first | (((with_reducible show Gd ..); first | (with_reducible first | refine Gd.t ?_ | refine Gd.f ?_ | (first | apply Gd.dec | apply Gd.beq | apply Gd.bne) <;> intro _ | refine Gd.not ?_) | refine Gd.t ?_ | refine Gd.f ?_ | apply Gd.var <;> intro _) <;> try (exfalso; omega)) | with_reducible refine Sq.mk ?_ | ((with_reducible show Ld1 ..); first | refine Ld1.h H ?_ | refine Ld1.rF ?_ | refine Ld1.r ?_) | ((with_reducible show Ld ..); first | refine Ld.h H ?_ | refine Ld.r ?_) | ((with_reducible show Ix ..); first | refine Ix.h ?_ | refine Ix.ha ?_) | (refine St.h H ?_; clear H; intro _ H))
      refine Sm.cat (l := tl) (m := 10 :: clo i) (by simp; omega) ?_
      repeat' ((conv => whnf); first | (((with_reducible show Gd ..); first | (with_reducible first | refine Gd.t ?_ | refine Gd.f ?_ | (first | apply Gd.dec | apply Gd.beq | apply Gd.bne) <;> intro _ | refine Gd.not ?_) | refine Gd.t ?_ | refine Gd.f ?_ | apply Gd.var <;> intro _) <;> try (exfalso; omega)) | with_reducible refine Sq.mk ?_ | ((with_reducible show Ld1 ..); first | refine Ld1.h H ?_ | refine Ld1.rF ?_ | refine Ld1.r ?_) | ((with_reducible show Ld ..); first | refine Ld.h H ?_ | refine Ld.r ?_) | ((with_reducible show Ix ..); first | refine Ix.h ?_ | refine Ix.ha ?_) | (refine St.h H ?_; clear H; intro _ H))
      refine ⟨(tl ++ 10 :: clo i, S2), ⟨rfl, rfl, rfl, trivial⟩, rfl, ⟨?_, ?_, ?_⟩, ?_⟩
      · show At (l ++ (tl ++ 10 :: clo i)) S2
        rw [← List.append_assoc]; exact hA2
      · show (tl ++ 10 :: clo i).length + 3 * wt S2 ≤ 5010
        rw [List.length_append, List.length_cons]; omega
      · show Hp nw w _ [bk p5 27 [.int .i64 (errOf (PR (l ++ (tl ++ 10 :: clo i)))), .int .i64 (plcOf (PR (l ++ (tl ++ 10 :: clo i))) : Int)]]
        rw [← List.append_assoc]
        exact H.sel [1] rfl
      · show wt S2 < wt S1
        omega
set_option maxHeartbeats 4000000 in
theorem textTail_c (l : Bs) (w : World) (hG : Rg w) (hC : RdC w) :
    Cl Tryz.prog 4 #[.string (bs l)] w (fun u w' => u = .bool true ∧ Ext w w') (fun _ _ => False) := by
  refine calls_ex (args := [.string (bs l)]) T.ok Tryz.func4 rfl rfl rfl rfl ?_
  have H := Hp.begin nw w
  have hlenl := bs_size l
  repeat' ((conv => whnf); first | (((with_reducible show Gd ..); first | (with_reducible first | refine Gd.t ?_ | refine Gd.f ?_ | (first | apply Gd.dec | apply Gd.beq | apply Gd.bne) <;> intro _ | refine Gd.not ?_) | refine Gd.t ?_ | refine Gd.f ?_ | apply Gd.var <;> intro _) <;> try (exfalso; omega)) | with_reducible refine Sq.mk ?_ | ((with_reducible show Ld1 ..); first | refine Ld1.h H ?_ | refine Ld1.rF ?_ | refine Ld1.r ?_) | ((with_reducible show Ld ..); first | refine Ld.h H ?_ | refine Ld.r ?_) | ((with_reducible show Ix ..); first | refine Ix.h ?_ | refine Ix.ha ?_) | (refine St.h H ?_; clear H; intro _ H))
  ((conv => whnf); refine Cl.mk (tail_c l _ (hG.ext H.e) (RdS.from H.e hC)) ?_)
  rintro _ w1 ⟨tl, e, ht, rfl, ex⟩
  replace H := H.ext ex
  clear ex
  have hlent := bs_size tl
  obtain ⟨E, hE⟩ : ∃ E, E = errOf (PR l) := ⟨_, rfl⟩
  obtain ⟨Pp, hP⟩ : ∃ P, P = plcOf (PR l) := ⟨_, rfl⟩
  unfold TailIs at ht
  rw [← hE, ← hP] at ht
  rcases ht with ⟨h1, rfl, rfl⟩ | ht
  · repeat' ((conv => whnf); first | (((with_reducible show Gd ..); first | (with_reducible first | refine Gd.t ?_ | refine Gd.f ?_ | (first | apply Gd.dec | apply Gd.beq | apply Gd.bne) <;> intro _ | refine Gd.not ?_) | refine Gd.t ?_ | refine Gd.f ?_ | apply Gd.var <;> intro _) <;> try (exfalso; omega)) | with_reducible refine Sq.mk ?_ | ((with_reducible show Ld1 ..); first | refine Ld1.h H ?_ | refine Ld1.rF ?_ | refine Ld1.r ?_) | ((with_reducible show Ld ..); first | refine Ld.h H ?_ | refine Ld.r ?_) | ((with_reducible show Ix ..); first | refine Ix.h ?_ | refine Ix.ha ?_) | (refine St.h H ?_; clear H; intro _ H))
    all_goals first | (exfalso; omega) | exact ⟨rfl, H.e⟩
  have h1 : l.length ≤ 8192 := by omega
  repeat' ((conv => whnf); first | (((with_reducible show Gd ..); first | (with_reducible first | refine Gd.t ?_ | refine Gd.f ?_ | (first | apply Gd.dec | apply Gd.beq | apply Gd.bne) <;> intro _ | refine Gd.not ?_) | refine Gd.t ?_ | refine Gd.f ?_ | apply Gd.var <;> intro _) <;> try (exfalso; omega)) | with_reducible refine Sq.mk ?_ | ((with_reducible show Ld1 ..); first | refine Ld1.h H ?_ | refine Ld1.rF ?_ | refine Ld1.r ?_) | ((with_reducible show Ld ..); first | refine Ld.h H ?_ | refine Ld.r ?_) | ((with_reducible show Ix ..); first | refine Ix.h ?_ | refine Ix.ha ?_) | (refine St.h H ?_; clear H; intro _ H))
  all_goals first | (exfalso; omega) | skip
  ((conv => whnf); refine Cl.mk (ParseR_r l _) ?_)
  intro v2 w2 q2
  obtain ⟨m2, A2, c2, e2, rfl, l2, H'⟩ := okq q2
  replace H := H.fr0L H' (fun c hc => by simp only [List.mem_cons, List.not_mem_nil, or_false] at hc; rcases hc with rfl | rfl <;> exact .inl rfl)
  rw [← hE, ← hP]
  rcases ht with ⟨_, h2, rfl, rfl⟩ | ⟨_, h2, h3, rfl, h4, h5, _⟩ <;> repeat' ((conv => whnf); first | (((with_reducible show Gd ..); first | (with_reducible first | refine Gd.t ?_ | refine Gd.f ?_ | (first | apply Gd.dec | apply Gd.beq | apply Gd.bne) <;> intro _ | refine Gd.not ?_) | refine Gd.t ?_ | refine Gd.f ?_ | apply Gd.var <;> intro _) <;> try (exfalso; omega)) | with_reducible refine Sq.mk ?_ | ((with_reducible show Ld1 ..); first | refine Ld1.h H ?_ | refine Ld1.rF ?_ | refine Ld1.r ?_) | ((with_reducible show Ld ..); first | refine Ld.h H ?_ | refine Ld.r ?_) | ((with_reducible show Ix ..); first | refine Ix.h ?_ | refine Ix.ha ?_) | (refine Al.hp H ?_; clear H; intro _ _ H _) | (refine St.h H ?_; clear H; intro _ H))
  all_goals first | (exfalso; omega) | exact ⟨rfl, H.e⟩ | skip
  refine Sm.cat (l := l) (m := tl) (by omega) ?_
  repeat' ((conv => whnf); first | (((with_reducible show Gd ..); first | (with_reducible first | refine Gd.t ?_ | refine Gd.f ?_ | (first | apply Gd.dec | apply Gd.beq | apply Gd.bne) <;> intro _ | refine Gd.not ?_) | refine Gd.t ?_ | refine Gd.f ?_ | apply Gd.var <;> intro _) <;> try (exfalso; omega)) | with_reducible refine Sq.mk ?_ | ((with_reducible show Ld1 ..); first | refine Ld1.h H ?_ | refine Ld1.rF ?_ | refine Ld1.r ?_) | ((with_reducible show Ld ..); first | refine Ld.h H ?_ | refine Ld.r ?_) | ((with_reducible show Ix ..); first | refine Ix.h ?_ | refine Ix.ha ?_) | (refine St.h H ?_; clear H; intro _ H))
  ((conv => whnf); refine Cl.mk (ParseR_r (l ++ tl) _) ?_)
  intro v3 w3 q3
  obtain ⟨m3, A3, c3, e3, rfl, l3, H'⟩ := okq q3
  replace H := H.fr0L H' (fun c hc => by simp only [List.mem_cons, List.not_mem_nil, or_false] at hc; rcases hc with rfl | rfl <;> exact .inl rfl)
  rw [h5]
  repeat' ((conv => whnf); first | (((with_reducible show Gd ..); first | (with_reducible first | refine Gd.t ?_ | refine Gd.f ?_ | (first | apply Gd.dec | apply Gd.beq | apply Gd.bne) <;> intro _ | refine Gd.not ?_) | refine Gd.t ?_ | refine Gd.f ?_ | apply Gd.var <;> intro _) <;> try (exfalso; omega)) | with_reducible refine Sq.mk ?_ | ((with_reducible show Ld1 ..); first | refine Ld1.h H ?_ | refine Ld1.rF ?_ | refine Ld1.r ?_) | ((with_reducible show Ld ..); first | refine Ld.h H ?_ | refine Ld.r ?_) | ((with_reducible show Ix ..); first | refine Ix.h ?_ | refine Ix.ha ?_) | (refine Al.hp H ?_; clear H; intro _ _ H _) | (refine St.h H ?_; clear H; intro _ H))
  exact ⟨rfl, H.e⟩
end Go.Proofs.YtfnjodpehomgfaaGreatDoor
namespace Go.Proofs.YtfnjodpehomgfaaGreatDoor
open Go Go.Shelf
def itoa_ren : Go.Shelf.Ren := ⟨fun | 173 => 138 | 246 => 148 | 283 => 151 | 284 => 152 | 285 => 153 | 286 => 154 | 129 => 157 | 317 => 156 | 318 => 158 | 319 => 159 | 320 => 160 | 337 => 161 | 338 => 162 | n => n, fun | 2 => 2 | 3 => 3 | 9 => 9 | 4 => 4 | 171 => 191 | 0 => 0 | 53 => 170 | 37 => 88 | 5 => 5 | 173 => 194 | 212 => 198 | 51 => 167 | 20 => 20 | 213 => 199 | 46 => 154 | 232 => 202 | 233 => 203 | n => n, fun | 17 => 7 | 18 => 8 | 19 => 9 | n => n⟩
theorem itoa_lays : Go.Proofs.LaysM.n173 Tryz.prog itoa_ren := {
  mixed := by kernel_rfl,
  f129 := Tryz.func157.trans (congrArg some (by kernel_rfl)),
  f173 := Tryz.func138.trans (congrArg some (by kernel_rfl)),
  f246 := Tryz.func148.trans (congrArg some (by kernel_rfl)),
  f283 := Tryz.func151.trans (congrArg some (by kernel_rfl)),
  f284 := Tryz.func152.trans (congrArg some (by kernel_rfl)),
  f285 := Tryz.func153.trans (congrArg some (by kernel_rfl)),
  f286 := Tryz.func154.trans (congrArg some (by kernel_rfl)),
  f317 := Tryz.func156.trans (congrArg some (by kernel_rfl)),
  f318 := Tryz.func158.trans (congrArg some (by kernel_rfl)),
  f319 := Tryz.func159.trans (congrArg some (by kernel_rfl)),
  f320 := Tryz.func160.trans (congrArg some (by kernel_rfl)),
  f337 := Tryz.func161.trans (congrArg some (by kernel_rfl)),
  f338 := Tryz.func162.trans (congrArg some (by kernel_rfl)),
  t0 := Tryz.underlying0,
  a0 := Tryz.isAgg0,
  z0 := Tryz.sizeOf0,
  v0 := Tryz.zeroValue0,
  t2 := Tryz.underlying2,
  a2 := Tryz.isAgg2,
  z2 := Tryz.sizeOf2,
  v2 := Tryz.zeroValue2,
  t3 := Tryz.underlying3,
  a3 := Tryz.isAgg3,
  z3 := Tryz.sizeOf3,
  v3 := Tryz.zeroValue3,
  t4 := Tryz.underlying4,
  a4 := Tryz.isAgg4,
  z4 := Tryz.sizeOf4,
  v4 := Tryz.zeroValue4,
  t5 := Tryz.underlying5,
  a5 := Tryz.isAgg5,
  z5 := Tryz.sizeOf5,
  v5 := Tryz.zeroValue5,
  t9 := Tryz.underlying9,
  a9 := Tryz.isAgg9,
  z9 := Tryz.sizeOf9,
  v9 := Tryz.zeroValue9,
  t20 := Tryz.underlying20,
  a20 := Tryz.isAgg20,
  z20 := Tryz.sizeOf20,
  v20 := Tryz.zeroValue20,
  t37 := Tryz.underlying88,
  a37 := Tryz.isAgg88,
  z37 := Tryz.sizeOf88,
  v37 := Tryz.zeroValue88,
  t46 := Tryz.underlying154,
  a46 := Tryz.isAgg154,
  z46 := Tryz.sizeOf154,
  v46 := Tryz.zeroValue154,
  t51 := Tryz.underlying167,
  a51 := Tryz.isAgg167,
  z51 := Tryz.sizeOf167,
  v51 := Tryz.zeroValue167,
  t53 := Tryz.underlying170,
  a53 := Tryz.isAgg170,
  z53 := Tryz.sizeOf170,
  v53 := Tryz.zeroValue170,
  t171 := Tryz.underlying191,
  a171 := Tryz.isAgg191,
  z171 := Tryz.sizeOf191,
  v171 := Tryz.zeroValue191,
  t173 := Tryz.underlying194,
  a173 := Tryz.isAgg194,
  z173 := Tryz.sizeOf194,
  v173 := Tryz.zeroValue194,
  t212 := Tryz.underlying198,
  a212 := Tryz.isAgg198,
  z212 := Tryz.sizeOf198,
  v212 := Tryz.zeroValue198,
  t213 := Tryz.underlying199,
  a213 := Tryz.isAgg199,
  z213 := Tryz.sizeOf199,
  t232 := Tryz.underlying202,
  a232 := Tryz.isAgg202,
  z232 := Tryz.sizeOf202,
  v232 := Tryz.zeroValue202,
  t233 := Tryz.underlying203,
  a233 := Tryz.isAgg203,
  z233 := Tryz.sizeOf203,
  v233 := Tryz.zeroValue203,
  g17 := by kernel_rfl,
  g18 := by kernel_rfl,
  g19 := by kernel_rfl,
  i0 := by kernel_rfl,
  i2 := by kernel_rfl,
  i3 := by kernel_rfl,
  i4 := by kernel_rfl,
  i5 := by kernel_rfl,
  i9 := by kernel_rfl,
  i20 := by kernel_rfl,
  i37 := by kernel_rfl,
  i46 := by kernel_rfl,
  i51 := by kernel_rfl,
  i53 := by kernel_rfl,
  i171 := by kernel_rfl,
  i173 := by kernel_rfl,
  i212 := by kernel_rfl,
  i232 := by kernel_rfl,
  i233 := by kernel_rfl,
  m17 := by kernel_rfl,
  m18 := by kernel_rfl,
  m19 := by kernel_rfl }
end Go.Proofs.YtfnjodpehomgfaaGreatDoor
namespace Go.Proofs.YtfnjodpehomgfaaGreatDoor
open Go Go.Sh Go.Tx
theorem ext_grow (w : World) (k : Nat) (os : Array Obj) : Ext w (Go.Sort.grow (w.drewN k) os) :=
  ⟨rfl, rfl, rfl, by simp [Go.Sort.grow, World.drewN], fun i hi => by
    show (w.heap ++ os)[i]? = w.heap[i]?
    exact Array.getElem?_append_left hi⟩
attribute [local irreducible] Blk Ext RdS
abbrev Pow (w : World) : Prop := Go.Lib.TabIs Tryz.prog w "internal/strconv.uint64pow10" .u64 Go.Lib.pow10Tab
theorem format_c (n : Int) (w : World) (h0 : -9223372036854775808 ≤ n) (h1 : n ≤ 9223372036854775807) (hP : Pow w) :
    Cl Tryz.prog 124 #[.int .i64 n] w (fun v w' => v = .string (bs (Go.Lib.itoa n)) ∧ Ext w w') (fun _ _ => False) := by
  have hc : Cl Tryz.prog 138 #[.int .i64 n, .int .i64 10] w (fun v w' => v = .string (bs (Go.Lib.itoa n)) ∧ Ext w w') (fun _ _ => False) := by
    refine ⟨Calls.mono (show Calls Tryz.prog 138 #[.int .i64 n, .int .i64 10] w _ from Any.strconv_FormatInt_10 itoa_lays n h0 h1 w hP) ?_⟩
    rintro e w' ⟨rfl, k, os, rfl⟩
    exact ⟨rfl, ext_grow w k os⟩
  refine calls_ex (args := [.int .i64 n]) T.ok Tryz.func124 rfl rfl rfl rfl ?_
  have H := Hp.begin nw w
  repeat' ((conv => whnf); first | (((with_reducible show Gd ..); first | (with_reducible first | refine Gd.t ?_ | refine Gd.f ?_ | (first | apply Gd.dec | apply Gd.beq | apply Gd.bne) <;> intro _ | refine Gd.not ?_) | refine Gd.t ?_ | refine Gd.f ?_ | apply Gd.var <;> intro _) <;> try (exfalso; omega)) | with_reducible refine Sq.mk ?_ | ((with_reducible show Ld1 ..); first | refine Ld1.h H ?_ | refine Ld1.rF ?_ | refine Ld1.r ?_) | ((with_reducible show Ld ..); first | refine Ld.h H ?_ | refine Ld.r ?_) | ((with_reducible show Ix ..); first | refine Ix.h ?_ | refine Ix.ha ?_) | (refine Al.hp H ?_; clear H; intro _ _ H _) | (refine St.h H ?_; clear H; intro _ H))
  (((conv => whnf); refine Cl.mk (hc) ?_); rintro _ _ ⟨rfl, hx⟩; replace H := H.ext hx; clear hx)
  repeat' ((conv => whnf); first | (((with_reducible show Gd ..); first | (with_reducible first | refine Gd.t ?_ | refine Gd.f ?_ | (first | apply Gd.dec | apply Gd.beq | apply Gd.bne) <;> intro _ | refine Gd.not ?_) | refine Gd.t ?_ | refine Gd.f ?_ | apply Gd.var <;> intro _) <;> try (exfalso; omega)) | with_reducible refine Sq.mk ?_ | ((with_reducible show Ld1 ..); first | refine Ld1.h H ?_ | refine Ld1.rF ?_ | refine Ld1.r ?_) | ((with_reducible show Ld ..); first | refine Ld.h H ?_ | refine Ld.r ?_) | ((with_reducible show Ix ..); first | refine Ix.h ?_ | refine Ix.ha ?_) | (refine Al.hp H ?_; clear H; intro _ _ H _) | (refine St.h H ?_; clear H; intro _ H))
  exact ⟨rfl, H.e⟩
theorem run_quo {P : Program} {t : Nat} {a b : Int} {xo yo : Operand} (hb : b ≠ 0) (w : World) : (do eqGuard .quo t xo yo (.int .i64 a) (.int .i64 b); binOp .quo t (.int .i64 a) (.int .i64 b) : Sem Value).run P w = .ok (.int .i64 (IntKind.i64.wrap (a.tdiv b))) w := by
  have hg : (eqGuard .quo t xo yo (.int .i64 a) (.int .i64 b)).run P w = .ok () w := by unfold eqGuard; simp
  simp [hg, binOp, Op.intDiv, hb]
theorem quo_ten {d : Nat} (h : d ≤ 9) : IntKind.i64.wrap (Int.tdiv (IntKind.i64.wrap (-9223372036854775808 + (d : Int))) 10) = -(((9223372036854775808 - d) / 10 : Nat) : Int) := by
  have h1 : IntKind.i64.wrap (-9223372036854775808 + (d : Int)) = -((9223372036854775808 - d : Nat) : Int) := by
    rw [show (-9223372036854775808 + (d : Int)) = -((9223372036854775808 - d : Nat) : Int) by omega]
    exact w64 rfl (by omega) (by omega)
  rw [h1, Int.neg_tdiv, Int.tdiv_eq_ediv_of_nonneg (by omega)]
  exact w64 (by omega) (by omega) (by omega)
theorem parse_c (s : Bs) (w : World) (hd : AllDig s) (hne : s ≠ []) (h48 : s ≠ [48]) (hP : ∀ w', Ext w w' → Pow w') :
    Cl Tryz.prog 108 #[.string (bs (45 :: s))] w (fun v w' => ∃ n e, v = .tuple #[.int .i64 n, .int .i64 e] ∧ (negOf s = some n ∧ e = 0 ∨ negOf s = none ∧ n = 0 ∧ e ≠ 0) ∧ Ext w w') (fun _ _ => False) := by
  refine calls_ex (args := [.string (bs (45 :: s))]) T.ok Tryz.func108 rfl rfl rfl rfl ?_
  have H := Hp.begin nw w
  have hsz := bs_size (45 :: s)
  rw [List.length_cons] at hsz
  by_cases hlong : 19 < s.length
  · have hn : negOf s = none := by unfold negOf; rw [if_neg h48, if_pos (.inl hlong)]
    repeat' ((conv => whnf); first | (((with_reducible show Gd ..); first | (with_reducible first | refine Gd.t ?_ | refine Gd.f ?_ | (first | apply Gd.dec | apply Gd.beq | apply Gd.bne) <;> intro _ | refine Gd.not ?_) | refine Gd.t ?_ | refine Gd.f ?_ | apply Gd.var <;> intro _) <;> try (exfalso; omega)) | with_reducible refine Sq.mk ?_ | ((with_reducible show Ld1 ..); first | refine Ld1.h H ?_ | refine Ld1.rF ?_ | refine Ld1.r ?_) | ((with_reducible show Ld ..); first | refine Ld.h H ?_ | refine Ld.r ?_) | ((with_reducible show Ix ..); first | refine Ix.h ?_ | refine Ix.ha ?_) | (refine Al.hp H ?_; clear H; intro _ _ H _) | (refine St.h H ?_; clear H; intro _ H))
    all_goals first | (exfalso; omega) | skip
    exact ⟨0, 2, rfl, .inr ⟨hn, rfl, by decide⟩, H.e⟩
  repeat' ((conv => whnf); first | (((with_reducible show Gd ..); first | (with_reducible first | refine Gd.t ?_ | refine Gd.f ?_ | (first | apply Gd.dec | apply Gd.beq | apply Gd.bne) <;> intro _ | refine Gd.not ?_) | refine Gd.t ?_ | refine Gd.f ?_ | apply Gd.var <;> intro _) <;> try (exfalso; omega)) | with_reducible refine Sq.mk ?_ | ((with_reducible show Ld1 ..); first | refine Ld1.h H ?_ | refine Ld1.rF ?_ | refine Ld1.r ?_) | ((with_reducible show Ld ..); first | refine Ld.h H ?_ | refine Ld.r ?_) | ((with_reducible show Ix ..); first | refine Ix.h ?_ | refine Ix.ha ?_) | (refine Al.hp H ?_; clear H; intro _ _ H _) | (refine St.h H ?_; clear H; intro _ H))
  all_goals first | (exfalso; omega) | skip
  refine Sm.srange H T.ok (fun r w1 H hr => ?_)
  repeat' ((conv => whnf); first | (((with_reducible show Gd ..); first | (with_reducible first | refine Gd.t ?_ | refine Gd.f ?_ | (first | apply Gd.dec | apply Gd.beq | apply Gd.bne) <;> intro _ | refine Gd.not ?_) | refine Gd.t ?_ | refine Gd.f ?_ | apply Gd.var <;> intro _) <;> try (exfalso; omega)) | with_reducible refine Sq.mk ?_ | ((with_reducible show Ld1 ..); first | refine Ld1.h H ?_ | refine Ld1.rF ?_ | refine Ld1.r ?_) | ((with_reducible show Ld ..); first | refine Ld.h H ?_ | refine Ld.r ?_) | ((with_reducible show Ix ..); first | refine Ix.h ?_ | refine Ix.ha ?_) | (refine Al.hp H ?_; clear H; intro _ _ H _) | (refine St.h H ?_; clear H; intro _ H))
  refine Lp.g0 T.ok (σ := Nat) (fun p => [(4, .int .i64 (-(val (s.take (p - 1)) : Int))), (5, .bool (decide (p ≠ 0))), (6, .int .i64 ((p - 1 : Nat) : Int)), (14, .pointer (some ⟨r, 0, none⟩)), (0, .string (bs (45 :: s))), (2, .int .i64 0), (3, .int .i64 0)])
    (fun p w' => p ≤ s.length + 1 ∧ val (s.take (p - 1)) ≤ 9223372036854775808 ∧ Hp nw w w' [si r (45 :: s) p]) (fun p _ => s.length + 1 - p) 0 rfl ⟨at_val rfl (by simp [val]), rfl, rfl, rfl, rfl, rfl, rfl, trivial⟩ ⟨Nat.zero_le _, by simp [val], H⟩ ?_
  clear H
  rintro p w5 ⟨hp, hv, H⟩
  have h45 : UInt8.toNat 45 = 45 := rfl
  have hfin : negOf s = if 9223372036854775808 < val s ∨ s.head?.map UInt8.toNat = some 48 then none else some (-(val s : Int)) := by
    unfold negOf
    rw [if_neg h48]
    by_cases h : 9223372036854775808 < val s ∨ s.head?.map UInt8.toNat = some 48
    · rw [if_pos (.inr h), if_pos h]
    · rw [if_neg (fun e => e.elim hlong h), if_neg h]
  cases p with
  | zero =>
    repeat' ((conv => whnf); first | (((with_reducible show Gd ..); first | (with_reducible first | refine Gd.t ?_ | refine Gd.f ?_ | (first | apply Gd.dec | apply Gd.beq | apply Gd.bne) <;> intro _ | refine Gd.not ?_) | refine Gd.t ?_ | refine Gd.f ?_ | apply Gd.var <;> intro _) <;> try (exfalso; omega)) | with_reducible refine Sq.mk ?_ | ((with_reducible show Ld1 ..); first | refine Ld1.h H ?_ | refine Ld1.rF ?_ | refine Ld1.r ?_) | ((with_reducible show Ld ..); first | refine Ld.h H ?_ | refine Ld.r ?_) | ((with_reducible show Ix ..); first | refine Ix.h ?_ | refine Ix.ha ?_) | (refine Al.hp H ?_; clear H; intro _ _ H _) | (refine St.h H ?_; clear H; intro _ H))
    refine Sm.snext (b := 45) H rfl (by decide) (fun w6 H => ?_)
    simp only [List.nil_append] at H
    repeat' ((conv => whnf); first | (((with_reducible show Gd ..); first | (with_reducible first | refine Gd.t ?_ | refine Gd.f ?_ | (first | apply Gd.dec | apply Gd.beq | apply Gd.bne) <;> intro _ | refine Gd.not ?_) | refine Gd.t ?_ | refine Gd.f ?_ | apply Gd.var <;> intro _) <;> try (exfalso; omega)) | with_reducible refine Sq.mk ?_ | ((with_reducible show Ld1 ..); first | refine Ld1.h H ?_ | refine Ld1.rF ?_ | refine Ld1.r ?_) | ((with_reducible show Ld ..); first | refine Ld.h H ?_ | refine Ld.r ?_) | ((with_reducible show Ix ..); first | refine Ix.h ?_ | refine Ix.ha ?_) | (refine Al.hp H ?_; clear H; intro _ _ H _) | (refine St.h H ?_; clear H; intro _ H))
    all_goals first | (exfalso; omega) | skip
    exact ⟨1, ⟨at_val rfl (by simp [val]), rfl, rfl, rfl, rfl, rfl, rfl, trivial⟩, rfl, ⟨by omega, by simp [val], H⟩, by omega⟩
  | succ q =>
    simp only [Nat.add_sub_cancel] at hv
    by_cases hq : q < s.length
    · obtain ⟨c, hc⟩ : ∃ c, s[q]? = some c := ⟨_, List.getElem?_eq_getElem hq⟩
      obtain ⟨hc1, hc2⟩ := List.getElem?_eq_some_iff.1 hc
      have hdc := hd c (List.mem_of_getElem? hc)
      simp only [digit, decide_eq_true_eq] at hdc
      have htk : s.take (q + 1) = s.take q ++ [c] := by rw [List.take_add_one, hc]; rfl
      have hval : val (s.take (q + 1)) = val (s.take q) * 10 + (c.toNat - 48) := by rw [htk]; simp [val]
      repeat' ((conv => whnf); first | (((with_reducible show Gd ..); first | (with_reducible first | refine Gd.t ?_ | refine Gd.f ?_ | (first | apply Gd.dec | apply Gd.beq | apply Gd.bne) <;> intro _ | refine Gd.not ?_) | refine Gd.t ?_ | refine Gd.f ?_ | apply Gd.var <;> intro _) <;> try (exfalso; omega)) | with_reducible refine Sq.mk ?_ | ((with_reducible show Ld1 ..); first | refine Ld1.h H ?_ | refine Ld1.rF ?_ | refine Ld1.r ?_) | ((with_reducible show Ld ..); first | refine Ld.h H ?_ | refine Ld.r ?_) | ((with_reducible show Ix ..); first | refine Ix.h ?_ | refine Ix.ha ?_) | (refine Al.hp H ?_; clear H; intro _ _ H _) | (refine St.h H ?_; clear H; intro _ H))
      refine Sm.snext (b := c) H (show (45 :: s)[q + 1]? = some c from hc) (by omega) (fun w6 H => ?_)
      simp only [List.nil_append] at H
      repeat' ((conv => whnf); first | (((with_reducible show Gd ..); first | (with_reducible first | refine Gd.t ?_ | refine Gd.f ?_ | (first | apply Gd.dec | apply Gd.beq | apply Gd.bne) <;> intro _ | refine Gd.not ?_) | refine Gd.t ?_ | refine Gd.f ?_ | apply Gd.var <;> intro _) <;> try (exfalso; omega)) | with_reducible refine Sq.mk ?_ | ((with_reducible show Ld1 ..); first | refine Ld1.h H ?_ | refine Ld1.rF ?_ | refine Ld1.r ?_) | ((with_reducible show Ld ..); first | refine Ld.h H ?_ | refine Ld.r ?_) | ((with_reducible show Ix ..); first | refine Ix.h ?_ | refine Ix.ha ?_) | (refine Al.hp H ?_; clear H; intro _ _ H _) | (refine St.h H ?_; clear H; intro _ H))
      all_goals first | (exfalso; omega) | skip
      generalize hdn : c.toNat - 48 = d at hval
      have hd9 : d ≤ 9 := by omega
      have hwd : IntKind.i64.wrap (IntKind.i32.wrap ((c.toNat : Int) - 48)) = (d : Int) := by
        rw [show ((c.toNat : Int) - 48) = (d : Int) by omega]
        simp [IntKind.wrap, IntKind.signed, IntKind.bits]
        omega
      (conv => whnf)
      rw [hwd]
      refine Sm.ran (run_quo (by decide) _) ?_
      rw [quo_ten hd9]
      repeat' ((conv => whnf); first | (((with_reducible show Gd ..); first | (with_reducible first | refine Gd.t ?_ | refine Gd.f ?_ | (first | apply Gd.dec | apply Gd.beq | apply Gd.bne) <;> intro _ | refine Gd.not ?_) | refine Gd.t ?_ | refine Gd.f ?_ | apply Gd.var <;> intro _) <;> try (exfalso; omega)) | with_reducible refine Sq.mk ?_ | ((with_reducible show Ld1 ..); first | refine Ld1.h H ?_ | refine Ld1.rF ?_ | refine Ld1.r ?_) | ((with_reducible show Ld ..); first | refine Ld.h H ?_ | refine Ld.r ?_) | ((with_reducible show Ix ..); first | refine Ix.h ?_ | refine Ix.ha ?_) | (refine Al.hp H ?_; clear H; intro _ _ H _) | (refine St.h H ?_; clear H; intro _ H))
      · rename_i hlt
        simp only [Nat.add_sub_cancel] at hlt
        have hvl := val_take s (q + 1)
        repeat' ((conv => whnf); first | (((with_reducible show Gd ..); first | (with_reducible first | refine Gd.t ?_ | refine Gd.f ?_ | (first | apply Gd.dec | apply Gd.beq | apply Gd.bne) <;> intro _ | refine Gd.not ?_) | refine Gd.t ?_ | refine Gd.f ?_ | apply Gd.var <;> intro _) <;> try (exfalso; omega)) | with_reducible refine Sq.mk ?_ | ((with_reducible show Ld1 ..); first | refine Ld1.h H ?_ | refine Ld1.rF ?_ | refine Ld1.r ?_) | ((with_reducible show Ld ..); first | refine Ld.h H ?_ | refine Ld.r ?_) | ((with_reducible show Ix ..); first | refine Ix.h ?_ | refine Ix.ha ?_) | (refine Al.hp H ?_; clear H; intro _ _ H _) | (refine St.h H ?_; clear H; intro _ H))
        exact ⟨0, 4, rfl, .inr ⟨by rw [hfin, if_pos (.inl (by omega))], rfl, by decide⟩, H.e⟩
      · rename_i hlt
        simp only [Nat.add_sub_cancel] at hlt
        repeat' ((conv => whnf); first | (((with_reducible show Gd ..); first | (with_reducible first | refine Gd.t ?_ | refine Gd.f ?_ | (first | apply Gd.dec | apply Gd.beq | apply Gd.bne) <;> intro _ | refine Gd.not ?_) | refine Gd.t ?_ | refine Gd.f ?_ | apply Gd.var <;> intro _) <;> try (exfalso; omega)) | with_reducible refine Sq.mk ?_ | ((with_reducible show Ld1 ..); first | refine Ld1.h H ?_ | refine Ld1.rF ?_ | refine Ld1.r ?_) | ((with_reducible show Ld ..); first | refine Ld.h H ?_ | refine Ld.r ?_) | ((with_reducible show Ix ..); first | refine Ix.h ?_ | refine Ix.ha ?_) | (refine Al.hp H ?_; clear H; intro _ _ H _) | (refine St.h H ?_; clear H; intro _ H))
        have h10 : IntKind.i64.wrap (-(val (s.take q) : Int) * 10) = -((val (s.take q) * 10 : Nat) : Int) := w64 (by omega) (by omega) (by omega)
        have hnew : IntKind.i64.wrap (IntKind.i64.wrap (-(val (s.take q) : Int) * 10) - (d : Int)) = -(val (s.take (q + 1)) : Int) := by
          rw [h10]
          exact w64 (by omega) (by omega) (by omega)
        refine ⟨q + 1 + 1, ⟨at_int rfl hnew, at_val rfl (by simp), at_int rfl (w64 (by omega) (by omega) (by omega)), rfl, rfl, rfl, rfl, trivial⟩, rfl, ⟨by omega, ?_, H⟩, by omega⟩
        show val (s.take (q + 1)) ≤ _
        omega
    · have hql : q = s.length := by omega
      subst hql
      have hs1 : 1 ≤ s.length := by
        cases s with
        | nil => exact absurd rfl hne
        | cons x r => simp
      have htk : s.take (s.length + 1 - 1) = s := by simp
      have hvs : val (s.take (s.length + 1 - 1)) ≤ 9223372036854775808 := by rw [htk]; rwa [List.take_length] at hv
      have hin := neg_itoa hd hne
      repeat' ((conv => whnf); first | (((with_reducible show Gd ..); first | (with_reducible first | refine Gd.t ?_ | refine Gd.f ?_ | (first | apply Gd.dec | apply Gd.beq | apply Gd.bne) <;> intro _ | refine Gd.not ?_) | refine Gd.t ?_ | refine Gd.f ?_ | apply Gd.var <;> intro _) <;> try (exfalso; omega)) | with_reducible refine Sq.mk ?_ | ((with_reducible show Ld1 ..); first | refine Ld1.h H ?_ | refine Ld1.rF ?_ | refine Ld1.r ?_) | ((with_reducible show Ld ..); first | refine Ld.h H ?_ | refine Ld.r ?_) | ((with_reducible show Ix ..); first | refine Ix.h ?_ | refine Ix.ha ?_) | (refine Al.hp H ?_; clear H; intro _ _ H _) | (refine St.h H ?_; clear H; intro _ H))
      refine Sm.send (l := 45 :: s) (p := s.length + 1) H (Nat.le_refl _) ?_
      repeat' ((conv => whnf); first | (((with_reducible show Gd ..); first | (with_reducible first | refine Gd.t ?_ | refine Gd.f ?_ | (first | apply Gd.dec | apply Gd.beq | apply Gd.bne) <;> intro _ | refine Gd.not ?_) | refine Gd.t ?_ | refine Gd.f ?_ | apply Gd.var <;> intro _) <;> try (exfalso; omega)) | with_reducible refine Sq.mk ?_ | ((with_reducible show Ld1 ..); first | refine Ld1.h H ?_ | refine Ld1.rF ?_ | refine Ld1.r ?_) | ((with_reducible show Ld ..); first | refine Ld.h H ?_ | refine Ld.r ?_) | ((with_reducible show Ix ..); first | refine Ix.h ?_ | refine Ix.ha ?_) | (refine Al.hp H ?_; clear H; intro _ _ H _) | (refine St.h H ?_; clear H; intro _ H))
      all_goals first | (exfalso; omega) | skip
      (((conv => whnf); refine Cl.mk (format_c _ _ (by omega) (by omega) (hP _ H.e)) ?_); rintro _ _ ⟨rfl, hx⟩; replace H := H.ext hx; clear hx)
      repeat' ((conv => whnf); first | (((with_reducible show Gd ..); first | (with_reducible first | refine Gd.t ?_ | refine Gd.f ?_ | (first | apply Gd.dec | apply Gd.beq | apply Gd.bne) <;> intro _ | refine Gd.not ?_) | refine Gd.t ?_ | refine Gd.f ?_ | apply Gd.var <;> intro _) <;> try (exfalso; omega)) | with_reducible refine Sq.mk ?_ | ((with_reducible show Ld1 ..); first | refine Ld1.h H ?_ | refine Ld1.rF ?_ | refine Ld1.r ?_) | ((with_reducible show Ld ..); first | refine Ld.h H ?_ | refine Ld.r ?_) | ((with_reducible show Ix ..); first | refine Ix.h ?_ | refine Ix.ha ?_) | (refine Al.hp H ?_; clear H; intro _ _ H _) | (refine St.h H ?_; clear H; intro _ H))
      · rename_i hb
        rw [bs_eq, htk] at hb
        have h1 := hin.1 (of_decide_eq_true hb)
        repeat' ((conv => whnf); first | (((with_reducible show Gd ..); first | (with_reducible first | refine Gd.t ?_ | refine Gd.f ?_ | (first | apply Gd.dec | apply Gd.beq | apply Gd.bne) <;> intro _ | refine Gd.not ?_) | refine Gd.t ?_ | refine Gd.f ?_ | apply Gd.var <;> intro _) <;> try (exfalso; omega)) | with_reducible refine Sq.mk ?_ | ((with_reducible show Ld1 ..); first | refine Ld1.h H ?_ | refine Ld1.rF ?_ | refine Ld1.r ?_) | ((with_reducible show Ld ..); first | refine Ld.h H ?_ | refine Ld.r ?_) | ((with_reducible show Ix ..); first | refine Ix.h ?_ | refine Ix.ha ?_) | (refine Al.hp H ?_; clear H; intro _ _ H _) | (refine St.h H ?_; clear H; intro _ H))
        refine ⟨-(val (s.take (s.length + 1 - 1)) : Int), 0, rfl, .inl ⟨?_, rfl⟩, H.e⟩
        rw [hfin, htk, if_neg]
        rw [htk] at hvs
        intro e
        rcases e with e | e
        · omega
        · exact h1 e
      · rename_i hb
        rw [bs_eq, htk] at hb
        have h1 : s.head?.map UInt8.toNat = some 48 := Classical.byContradiction fun e => of_decide_eq_false hb (hin.2 e)
        repeat' ((conv => whnf); first | (((with_reducible show Gd ..); first | (with_reducible first | refine Gd.t ?_ | refine Gd.f ?_ | (first | apply Gd.dec | apply Gd.beq | apply Gd.bne) <;> intro _ | refine Gd.not ?_) | refine Gd.t ?_ | refine Gd.f ?_ | apply Gd.var <;> intro _) <;> try (exfalso; omega)) | with_reducible refine Sq.mk ?_ | ((with_reducible show Ld1 ..); first | refine Ld1.h H ?_ | refine Ld1.rF ?_ | refine Ld1.r ?_) | ((with_reducible show Ld ..); first | refine Ld.h H ?_ | refine Ld.r ?_) | ((with_reducible show Ix ..); first | refine Ix.h ?_ | refine Ix.ha ?_) | (refine Al.hp H ?_; clear H; intro _ _ H _) | (refine St.h H ?_; clear H; intro _ H))
        exact ⟨0, 4, rfl, .inr ⟨by rw [hfin, if_pos (.inr h1)], rfl, by decide⟩, H.e⟩
end Go.Proofs.YtfnjodpehomgfaaGreatDoor
namespace Go.Sh
open Go.RowKit Go.ChangeShapes
section
variable {H : Type} {enc : TypeId × Value → H} {P : Program}
theorem sameAt_ext {w w' : World} (e : Ext w w') {p : MemPlace} (h : p.block < w.heap.size) : w.sameAt w' p := by
  cases p with
  | cell b off => exact Below.cell e h
  | map b => exact Below.block e b h
theorem trodAll_ext {w w' : World} (e : Ext w w') {base : Nat} {spare : Nat → Bool} {held : Bool} : ∀ {ts : List TypeId} {vs : List Value} {ds : List (DataW H)} {ps : List MemPlace},
    DataW.TrodAll enc P w base spare held ts vs ds ps → (∀ p ∈ ps, p.block < w.heap.size) → DataW.TrodAll enc P w' base spare held ts vs ds ps
  | [], [], [], _, h, _ => h
  | _ :: _, _ :: _, _ :: _, _, ⟨p, q, ⟨n, hn⟩, h2, he⟩, hlt =>
    ⟨p, q, ⟨n, DataW.trod_carry n _ _ _ hn fun x hx => sameAt_ext e (hlt x (by rw [he]; exact List.mem_append_left _ hx))⟩, trodAll_ext e h2 (fun x hx => hlt x (by rw [he]; exact List.mem_append_right _ hx)), he⟩
theorem keptBut_ext {w w' : World} (e : Ext w w') (may : MemPlace → Prop) : w.keptBut w' may := by
  refine ⟨Below.os e, Below.output e, fun i hi => ?_⟩
  rw [Below.block e i hi]
  cases w.heap[i]? with
  | none => rfl
  | some o => cases o <;> first | exact ⟨rfl, rfl, rfl, fun _ _ => rfl⟩ | exact .inr ⟨rfl, rfl⟩ | rfl
theorem post_kept (K : Kids P (· < P.types.size)) (hz : ∀ t e, t < P.types.size → P.underlying t = some (.slice e) → 0 < P.cellsOf e) {f : Func} {s : ChangeSpec} {apart fresh handsOn : Bool} {W W' : World} {args : Array Value} {ds gs : List (DataW H)} {before : List MemPlace} {t : TypeId}
    (hW : DataW.Whole enc P f.params.toList s.vars apart W args.toList ds gs before) (hts : ∀ t ∈ f.params.toList, t < P.types.size) (hv : s.vars = []) (e : Ext W W')
    (hfn : s.fn H (ds ++ []) = { results := [.lit (.bool true)], args := ds }) (hr : f.resultTypes = #[t]) (ht : P.underlying t = some .bool) :
    s.post enc P f apart fresh handsOn false W args (.bool true) W' := by
  have hlt := hW.lt
  have hW0 := hW
  obtain ⟨p, q, h1, h2, rfl, _⟩ := hW0
  rw [hv] at h2
  obtain ⟨rfl, rfl⟩ := trodVars_none h2
  rw [List.append_nil] at hlt
  refine ⟨ds, [], p ++ [], [], p, [], hW, ?_, ?_, ?_, keptBut_ext e _, fun h => by cases h⟩
  · rw [hfn, hr]
    exact ⟨[], [], shut_bool ht true, rfl, rfl⟩
  · rw [hfn]
    refine DataW.TrodAll.respare K hz hts (trodAll_ext e h1 hlt) fun x hx => ?_
    simpa using hlt x hx
  · rw [hfn, hv]; rfl
theorem cell_lt {w : World} {a : Addr} {v : Value} (h : w.cell? a = some v) : a.block < w.heap.size := by
  unfold World.cell? at h
  split at h
  · rename_i h1
    exact (Array.getElem?_eq_some_iff.1 h1).1
  · simp at h
theorem exists_list {α : Type} {Q : Nat → α → Prop} : ∀ (n : Nat), (∀ i, i < n → ∃ a, Q i a) → ∃ l : List α, l.length = n ∧ ∀ (i : Nat) (a : α), l[i]? = some a → Q i a
  | 0, _ => ⟨[], rfl, fun i a h => by simp at h⟩
  | n + 1, h => by
    obtain ⟨l, h1, h2⟩ := exists_list (Q := Q) n fun i hi => h i (by omega)
    obtain ⟨a, ha⟩ := h n (by omega)
    refine ⟨l ++ [a], by simp [h1], fun i b hb => ?_⟩
    rcases Nat.lt_or_ge i l.length with hl | hl
    · rw [List.getElem?_append_left hl] at hb; exact h2 i b hb
    · have : i = l.length := by have := (List.getElem?_eq_some_iff.1 hb).1; simp at this; omega
      subst this
      simp at hb; subst hb
      rw [h1]; exact ha
variable {w : World} {sp : Nat → Bool} {held : Bool} {fuel : Nat} {t : TypeId} {cs : List Value} {x : DataW H × List MemPlace}
end
end Go.Sh
namespace Go.Proofs.YtfnjodpehomgfaaGreatDoor
open Go Go.Sh Go.Tx
attribute [local irreducible] Blk Ext RdS
theorem u_string : Tryz.prog.underlying 9 = some .string := (T.ok.1.get (t := 9) (i := T.t9) rfl).1
theorem c_string : Tryz.prog.cellsOf 9 = 1 := by kernel_rfl
abbrev sE : Bs → List Value := fun b => [Value.string (bs b)]
def strD {H : Type} (l : List Bs) : List (DataW H) := l.map fun b => .lit (.string b)
theorem str_cell {H : Type} {enc : TypeId × Value → H} {w : World} {sp : Nat → Bool} {held : Bool} {fuel : Nat} {cs : List Value} {x : DataW H × List MemPlace} {b : Bs} (h : DataW.trod enc Tryz.prog w 0 sp held fuel 9 cs = some x) (hx : x.1 = .lit (.string b)) : cs = [.string (bs b)] := by
  obtain ⟨s, rfl, rfl, _⟩ := DataW.trod_string u_string h
  simp only [DataW.lit.injEq, Lit.string.injEq] at hx
  rw [← hx, ← bs_of]
theorem tab_str {name : String} {g t n : Nat} {l : List Bs} {rest : List (String × DataW Unit)} {w : World} (hg : Tryz.prog.globalNamed name = some g) (hty : (Tryz.prog.globals[g]?).map (·.type) = some t)
    (hu : Tryz.prog.underlying t = some (.array n 9)) (hn : l.length = n) (hct : Tryz.prog.cellsOf t = n) (h : laidMet Tryz.prog ((name, .agg (strD l)) :: rest) w) : RdS sE 1 w (some ⟨g, 0, none⟩) l := by
  obtain ⟨ps, ⟨g', t', cs, fuel, p, q, hg', ht', hvar, hd, _, _⟩, _⟩ := h
  obtain rfl := Option.some.inj (hg.symm.trans hg')
  obtain rfl := Option.some.inj (hty.symm.trans ht')
  obtain ⟨xs, m, _, hx, hl, hxs, hf⟩ := DataW.trod_array hu hd
  rw [hct] at hl
  rw [c_string] at hf
  have hxs2 : xs.map (·.1) = strD l := by
    have := congrArg Prod.fst hx
    simp only [DataW.agg.injEq] at this
    exact this.symm
  have hblk : ∃ tt fr cs0, w.heap[g]? = some (.cells cs0 tt fr) ∧ cs0.toList = cs.toList := by
    simp only [World.var?, hg, Option.bind_some] at hvar
    split at hvar
    · rename_i c1 t1 f1 hh
      simp at hvar; subst hvar
      exact ⟨t1, f1, _, hh, rfl⟩
    · simp at hvar
  obtain ⟨tt, fr, cs0, hb, hcs0⟩ := hblk
  unfold RdS
  refine ⟨fun _ => ⟨by simp, (Array.getElem?_eq_some_iff.1 hb).1⟩, fun i b hb2 => ⟨sE b, rfl, rfl, fun j v hv => ?_⟩⟩
  have hi : i < n := by rw [← hn]; exact (List.getElem?_eq_some_iff.1 hb2).1
  have h3 := hf i hi
  rw [List.getElem?_eq_getElem (by omega)] at h3
  have h4 : (xs.map (·.1))[i]? = some (.lit (.string b)) := by rw [hxs2, strD, List.getElem?_map, hb2]; rfl
  rw [List.getElem?_map, List.getElem?_eq_getElem (by omega)] at h4
  have h5 := str_cell h3 (Option.some.inj h4)
  have hj : j = 0 := by
    have := (List.getElem?_eq_some_iff.1 hv).1
    simp [sE] at this; omega
  subst hj
  simp only [gA]
  rw [add_lit]
  simp only [World.cell?, hb]
  rw [Nat.zero_add, ← Array.getElem?_toList]
  have h6 := congrArg (·[0]?) h5
  simp only [List.getElem?_cons_zero] at h6
  rw [List.getElem?_take_of_lt (by omega), List.getElem?_drop] at h6
  rw [hcs0]
  rw [← hv]
  exact h6
theorem u_strs : Tryz.prog.underlying 31 = some (.slice 9) := (T.ok.1.get (t := 31) (i := T.t31) rfl).1
theorem c_strs : Tryz.prog.cellsOf 31 = 1 := by kernel_rfl
theorem strs_cell {H : Type} {enc : TypeId × Value → H} {w : World} {sp : Nat → Bool} {held : Bool} {fuel : Nat} {cs : List Value} {x : DataW H × List MemPlace} {l : List Bs} {r : List (DataW H)}
    (h : DataW.trod enc Tryz.prog w 0 sp held fuel 31 cs = some x) (hx : x.1 = .slice (strD l) r) : ∃ (A : Option Addr) (c : Nat), cs = [.slice A l.length c] ∧ RdS sE 1 w A l := by
  rcases DataW.trod_slice u_strs h with ⟨rfl, rfl⟩ | ⟨a, len, cap, elems, rest, n, _, rfl, rfl, _, hl, hm, hlen, hel, _⟩
  · simp at hx
  simp only [DataW.slice.injEq] at hx
  have hll : l.length = len := by
    have := congrArg List.length hx.1
    simp only [List.length_map, strD] at this
    omega
  refine ⟨some a, cap, by rw [hll], ?_⟩
  rw [c_string] at hel
  have hcell : ∀ i b, l[i]? = some b → w.cell? (a.add (i * 1)) = some (.string (bs b)) := by
    intro i b hb
    have hi : i < len := by rw [← hll]; exact (List.getElem?_eq_some_iff.1 hb).1
    have h1 := hel i hi
    rw [List.getElem?_eq_getElem (by omega), Option.bind_eq_some_iff] at h1
    obtain ⟨vs, hv, hy⟩ := h1
    have h4 : (elems.map (·.1))[i]? = some (.lit (.string b)) := by rw [hx.1, strD, List.getElem?_map, hb]; rfl
    rw [List.getElem?_map, List.getElem?_eq_getElem (by omega)] at h4
    have h5 := str_cell hy (Option.some.inj h4)
    subst h5
    unfold World.cells? at hv
    rw [if_pos (Nat.zero_le _)] at hv
    obtain ⟨u, hu1, hu2⟩ := Lib.mapM_at hv 0 0 (by simp)
    simp at hu1; subst hu1
    exact hu2
  unfold RdS
  refine ⟨fun hn => ⟨by simp, ?_⟩, fun i b hb => ⟨sE b, rfl, rfl, fun j v hv => ?_⟩⟩
  · obtain ⟨b, hb⟩ : ∃ b, l[0]? = some b := ⟨l[0]'(List.length_pos_iff.2 hn), List.getElem?_eq_getElem _⟩
    have := hcell 0 b hb
    simp only [gA]
    rw [← block_add a (0 * 1)]
    exact cell_lt this
  · have hj : j = 0 := by
      have := (List.getElem?_eq_some_iff.1 hv).1
      simp [sE] at this; omega
    subst hj
    simp only [gA, Nat.add_zero]
    rw [hcell i b hb]
    exact hv
theorem tab_lvl {name : String} {g t n : Nat} {ls : List (List Bs)} {rest : List (String × DataW Unit)} {w : World} (hg : Tryz.prog.globalNamed name = some g) (hty : (Tryz.prog.globals[g]?).map (·.type) = some t)
    (hu : Tryz.prog.underlying t = some (.array n 31)) (hn : ls.length = n) (hct : Tryz.prog.cellsOf t = n) (h : laidMet Tryz.prog ((name, .agg (ls.map fun l => .slice (strD l) [])) :: rest) w) :
    ∃ As : List (Option Addr × Nat), As.length = n ∧ RdS (fun x : Option Addr × Nat × Nat => [Value.slice x.1 x.2.1 x.2.2]) 1 w (some ⟨g, 0, none⟩) ((As.zip ls).map fun x => (x.1.1, x.2.length, x.1.2)) ∧ ∀ x ∈ As.zip ls, RdS sE 1 w x.1.1 x.2 := by
  obtain ⟨ps, ⟨g', t', cs, fuel, p, q, hg', ht', hvar, hd, _, _⟩, _⟩ := h
  obtain rfl := Option.some.inj (hg.symm.trans hg')
  obtain rfl := Option.some.inj (hty.symm.trans ht')
  obtain ⟨xs, m, _, hx, hl, hxs, hf⟩ := DataW.trod_array hu hd
  rw [hct] at hl
  rw [c_strs] at hf
  have hxs2 : xs.map (·.1) = ls.map fun l => .slice (strD l) [] := by
    have := congrArg Prod.fst hx
    simp only [DataW.agg.injEq] at this
    exact this.symm
  have hblk : ∃ tt fr cs0, w.heap[g]? = some (.cells cs0 tt fr) ∧ cs0.toList = cs.toList := by
    simp only [World.var?, hg, Option.bind_some] at hvar
    split at hvar
    · rename_i c1 t1 f1 hh
      simp at hvar; subst hvar
      exact ⟨t1, f1, _, hh, rfl⟩
    · simp at hvar
  obtain ⟨tt, fr, cs0, hb, hcs0⟩ := hblk
  obtain ⟨As, hA1, hA2⟩ := exists_list (α := Option Addr × Nat) (Q := fun i A => ∀ l, ls[i]? = some l → (cs.toList.drop (i * 1)).take 1 = [.slice A.1 l.length A.2] ∧ RdS sE 1 w A.1 l) n (fun i hi => by
    have h3 := hf i hi
    rw [List.getElem?_eq_getElem (by omega)] at h3
    obtain ⟨l, hli⟩ : ∃ l, ls[i]? = some l := ⟨ls[i]'(by omega), List.getElem?_eq_getElem _⟩
    have h4 : (xs.map (·.1))[i]? = some (.slice (strD l) []) := by rw [hxs2, List.getElem?_map, hli]; rfl
    rw [List.getElem?_map, List.getElem?_eq_getElem (by omega)] at h4
    obtain ⟨A, c, h5, h6⟩ := strs_cell h3 (Option.some.inj h4)
    exact ⟨(A, c), fun l' hl' => by rw [hli] at hl'; obtain rfl := Option.some.inj hl'; exact ⟨h5, h6⟩⟩)
  refine ⟨As, hA1, ?_, fun x hx => ?_⟩
  · unfold RdS
    refine ⟨fun _ => ⟨by simp, (Array.getElem?_eq_some_iff.1 hb).1⟩, fun i y hy => ⟨_, rfl, rfl, fun j v hv => ?_⟩⟩
    rw [List.getElem?_map] at hy
    obtain ⟨z, hz1, rfl⟩ := Option.map_eq_some_iff.1 hy
    obtain ⟨h7, h8⟩ := List.getElem?_zip_eq_some.1 hz1
    obtain ⟨h9, _⟩ := hA2 i z.1 h7 z.2 h8
    have hj : j = 0 := by
      have := (List.getElem?_eq_some_iff.1 hv).1
      simp at this; omega
    subst hj
    simp only [gA]
    rw [add_lit]
    simp only [World.cell?, hb]
    rw [Nat.zero_add, ← Array.getElem?_toList]
    have h6 := congrArg (·[0]?) h9
    simp only [List.getElem?_cons_zero] at h6
    rw [List.getElem?_take_of_lt (by omega), List.getElem?_drop] at h6
    rw [hcs0]
    rw [← hv]
    exact h6
  · obtain ⟨i, hi⟩ := List.getElem?_of_mem hx
    obtain ⟨h7, h8⟩ := List.getElem?_zip_eq_some.1 hi
    exact (hA2 i x.1 h7 x.2 h8).2
theorem Pow.ext {w w' : World} (h : Pow w) (e : Ext w w') (hb : ∀ g, Tryz.prog.globalNamed "internal/strconv.uint64pow10" = some g → g < w.heap.size) : Pow w' := by
  unfold Pow Go.Lib.TabIs World.var? at h ⊢
  cases hg : Tryz.prog.globalNamed "internal/strconv.uint64pow10" with
  | none => rw [hg] at h; exact h
  | some g =>
    rw [hg] at h
    simp only [Option.bind_some] at h ⊢
    have e2 := e
    unfold Ext at e2
    rw [Go.RowKit.Below.block e2 g (hb g hg)]
    exact h
theorem Pow.lt {w : World} (h : Pow w) (g : Nat) (hg : Tryz.prog.globalNamed "internal/strconv.uint64pow10" = some g) : g < w.heap.size := by
  unfold Pow Go.Lib.TabIs World.var? at h
  rw [hg] at h
  simp only [Option.bind_some] at h
  rcases Nat.lt_or_ge g w.heap.size with h1 | h1
  · exact h1
  · rw [Array.getElem?_eq_none h1] at h
    simp at h
theorem rg_of {w : World} (hk : RdS sE 1 w (some ⟨3, 0, none⟩) keywords) (hs : RdS sE 1 w (some ⟨2, 0, none⟩) signs) (hn : RdS sE 1 w (some ⟨4, 0, none⟩) opNames)
    (hl : ∃ As : List (Option Addr × Nat), As.length = 8 ∧ RdS (fun x : Option Addr × Nat × Nat => [Value.slice x.1 x.2.1 x.2.2]) 1 w (some ⟨6, 0, none⟩) ((As.zip levels).map fun x => (x.1.1, x.2.length, x.1.2)) ∧ ∀ x ∈ As.zip levels, RdS sE 1 w x.1.1 x.2)
    (hP : Pow w) (hE : EG w) : Rg w :=
  ⟨⟨hk, hs, hn, hl, fun s w' e h1 h2 h3 => parse_c s w' h1 h2 h3 fun w'' e2 => hP.ext (Ext.trans e e2) hP.lt⟩, hE⟩
theorem eg_of {w : World} (h : handlesMet Tryz.prog [("errors.errorType", Rows.laid_errors_errorType)] w) : EG w := by
  obtain ⟨name, u, ty, e1, e2, e3, e4, e5⟩ := h _ (List.mem_singleton.2 rfl)
  have en : name = [101, 114, 114, 111, 114] := (Option.some.inj e1).symm
  subst en
  have hrt : (Tryz.prog.cutTypes.find? (·.1 == "internal/reflectlite.rtype")).map (·.2) = some 137 := by kernel_rfl
  obtain rfl := Option.some.inj (hrt.symm.trans e2)
  have hone : ((List.range Tryz.prog.types.size).filter fun t => Tryz.prog.rowNamed t [101, 114, 114, 111, 114]) = [58] := by kernel_rfl
  have hm : ty ∈ (List.range Tryz.prog.types.size).filter fun t => Tryz.prog.rowNamed t [101, 114, 114, 111, 114] := List.mem_filter.2 ⟨List.mem_range.2 e3, e4⟩
  rw [hone] at hm
  obtain rfl := List.mem_singleton.1 hm
  have hh : typeHandle Tryz.prog 58 = .pointer (some ⟨10, 58, none⟩) := by kernel_rfl
  rw [hh] at e5
  have het : Tryz.prog.globalNamed "errors.errorType" = some 0 := by kernel_rfl
  have := World.var?_cell het e5 0
  unfold EG
  simpa using this
end Go.Proofs.YtfnjodpehomgfaaGreatDoor
namespace Go.Proofs.YtfnjodpehomgfaaGreatDoor
open Go Go.Sh Go.Tx
attribute [local irreducible] Blk Ext RdS
theorem kids : Kids Tryz.prog (· < Tryz.prog.types.size) := kids_rows (by kernel_rfl) (by kernel_rfl)
theorem full : ∀ t e, t < Tryz.prog.types.size → Tryz.prog.underlying t = some (.slice e) → 0 < Tryz.prog.cellsOf e := slices_full_of _ (by kernel_rfl)
theorem own : ownKnob Tryz.prog.godebug = none := by kernel_rfl
theorem u_bool : Tryz.prog.underlying 4 = some .bool := (T.ok.1.get (t := 4) (i := T.t4) rfl).1
set_option maxRecDepth 100000 in
theorem arg_string {H : Type} {enc : TypeId × Value → H} {w : World} {sp : Nat → Bool} {held : Bool} {v : Value} {d : DataW H} {p : List MemPlace} {r : Go.Reach} {b0 : Nat} (hv : Value.okWide Tryz.prog w r b0 9 v) (h : DataW.Trod enc Tryz.prog w 0 sp held 9 v d p) :
    ∃ l : Bs, v = .string (bs l) ∧ d = .lit (.string l) ∧ l.length ≤ maxLen := by
  obtain ⟨s, rfl, rfl, _, hs⟩ := ChangeMaps.open_string (P := Tryz.prog) (t := 9) u_string hv h
  exact ⟨s.data.toList, by rw [← bs_of], rfl, Nat.le_trans (Nat.le_of_eq Array.length_toList) hs⟩
def litV : DataW Unit → List Value
  | .lit (.int k n) => [.int k n]
  | .lit (.string s) => [.string (bs s)]
  | _ => []
def litVs : DataW Unit → List Value
  | .agg l => l.flatMap litV
  | _ => []
def setG (cs : List Value) : Obj → Obj
  | .cells _ t frozen => .cells cs.toArray t frozen
  | o => o
noncomputable def laidWorld (os : Os) : World :=
  let w0 := World.holding Tryz.prog os ⟨#[], #[], []⟩
  let n := w0.heap.size
  { w0 with heap := ((((((((w0.heap.modify 8 (setG (litVs Rows.laid_math_bits_deBruijn32tab))).modify 9 (setG (litVs Rows.laid_math_bits_deBruijn64tab))).modify 7 (setG (litVs Rows.laid_internal_strconv_uint64pow10))).modify 4 (setG (litVs Rows.laid_plunder_ops_names))).modify 3 (setG (litVs Rows.laid_plunder_text_keywords))).modify 2 (setG (litVs Rows.laid_plunder_text_signs))).modify 0 (setG [.iface 137 (.agg #[.pointer (some ⟨10, 58, none⟩)])])).modify 6 (setG ((List.range 8).map fun i => .slice (some ⟨n + i, 0, none⟩) ((levels.map List.length).getD i 0) ((levels.map List.length).getD i 0)))) ++ (levels.map fun l => Obj.cells (l.map fun b => Value.string (bs b)).toArray 9 (0, 0)).toArray }
end Go.Proofs.YtfnjodpehomgfaaGreatDoor
namespace Go.Proofs.YtfnjodpehomgfaaGreatDoor
open Go Go.Sh Go.Tx
attribute [local irreducible] Blk Ext RdS
abbrev laidDataC : List (String × DataW Unit) := [("math/bits.deBruijn32tab", Rows.laid_math_bits_deBruijn32tab), ("math/bits.deBruijn64tab", Rows.laid_math_bits_deBruijn64tab), ("internal/strconv.uint64pow10", Rows.laid_internal_strconv_uint64pow10), ("plunder/ops.names", Rows.laid_plunder_ops_names), ("plunder/text.levels", Rows.laid_plunder_text_levels), ("plunder/text.closers", Rows.laid_plunder_text_closers), ("plunder/text.keywords", Rows.laid_plunder_text_keywords), ("plunder/text.signs", Rows.laid_plunder_text_signs)]
theorem rg_laidC {W : World} (h : laidMet Tryz.prog laidDataC W ∧ handlesMet Tryz.prog [("errors.errorType", Rows.laid_errors_errorType)] W) : Rg W ∧ RdC W := by
  have h1 := laidMet.tail (laidMet.tail h.1)
  have hp : Pow W := Lib.tabIs_of_head (zs := Lib.pow10Tab) (g := 7) (t := 198) (e := 170) (n := 20) (by kernel_rfl) (by kernel_rfl) (by kernel_rfl) (by kernel_rfl) (by kernel_rfl) (by kernel_rfl) h1
  have h2 := laidMet.tail h1
  have hn := tab_str (l := opNames) (g := 4) (n := 16) (by kernel_rfl) rfl (by kernel_rfl) rfl (by kernel_rfl) h2
  have h3 := laidMet.tail h2
  have hl := tab_lvl (ls := levels) (g := 6) (n := 8) (by kernel_rfl) rfl (by kernel_rfl) rfl (by kernel_rfl) h3
  have h4 := laidMet.tail h3
  have hc := tab_str (l := CL) (g := 1) (n := 10) (by kernel_rfl) rfl (by kernel_rfl) rfl (by kernel_rfl) h4
  have h4 := laidMet.tail h4
  have hk := tab_str (l := keywords) (g := 3) (n := 15) (by kernel_rfl) rfl (by kernel_rfl) rfl (by kernel_rfl) h4
  have h5 := laidMet.tail h4
  have hs := tab_str (l := signs) (g := 2) (n := 24) (by kernel_rfl) rfl (by kernel_rfl) rfl (by kernel_rfl) h5
  exact ⟨rg_of hk hs hn hl hp (eg_of h.2), hc⟩
noncomputable def laidWorldC (os : Os) : World := { laidWorld os with heap := (laidWorld os).heap.modify 1 (setG (litVs Rows.laid_plunder_text_closers)) }
end Go.Proofs.YtfnjodpehomgfaaGreatDoor
