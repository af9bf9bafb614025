/- own work: TyW, TyS, TxD, TyT, ShQ, TyU, TxE, TyX, PtA -/
import Derived.Shelf.Strconv.Itoa4
import Derived.Lib.ItoaNum
import Derived.ReadAgain
import Derived.ChangeArms
import Derived.ChangeSame
import Derived.ChangeShapes
import Derived.Lib.LaidTab
import Derived.Test.YtapdmkgdiaechaaDoorRows
import Derived.OpenShut
import Derived.LaidLaws
import Derived.Test.YtapdmkgdiaechaaDoorCards
import Derived.Test.YtapdmkgdiaechaaDoorTie
import Derived.DataShut
import Derived.ProofKit
import Derived.LaidHandle
import Derived.Stop.LaidErr
import Derived.Deep.DeepHandedRow
import Derived.Deep.DeepWitnessRowRef
import Derived.Test.YtapdmkgdiaechaaDoorMTA4
namespace Go.Proofs.YtapdmkgdiaechaaDoor
open Go Go.Sh Go.Tx
set_option linter.unusedVariables false
set_option linter.unusedSimpArgs false
set_option linter.unusedSectionVars false
theorem Ld.rsF {α : Type} {enc : α → List Value} {sz i o n : Nat} {w : World} {A : Option Addr} {l : List α} {x : α} {k : List Value → Prop} (h : RdS enc sz w A l) (hx : l[i]? = some x) (hn : (((enc x).drop o).take n).length = n) (hk : k (((enc x).drop o).take n)) : Ld w (pAdd ((gA A).add (i * sz)) o) n k := by
  obtain ⟨vs, h1, h2, h3⟩ := Rd.at_ h i x hx
  unfold Fl at h2
  subst h2
  refine ⟨_, hn, fun j v hv => ?_, hk⟩
  have hj : j < n := by
    have := (List.getElem?_eq_some_iff.1 hv).1
    omega
  rw [List.getElem?_take_of_lt hj, List.getElem?_drop] at hv
  have := h3 (o + j) v hv
  rw [pAdd_add, add_add]
  rw [Nat.add_assoc]
  exact this
attribute [local irreducible] Blk Ext RdS
theorem fm_one : ∀ {m : List FM} {y : Fnc}, m.map FM.e = [y] → ∃ f, m = [f] ∧ FM.e f = y
  | [], _, h => by simp at h
  | [f], _, h => ⟨f, rfl, by simpa using h⟩
  | _ :: _ :: _, _, h => by simp at h
theorem sm_one : ∀ {m : List SM} {y : Go.Tx.St}, SM.es m = [y] → ∃ f, m = [f] ∧ SM.e f = y
  | [], _, h => by simp [SM.es] at h
  | [f], _, h => ⟨f, rfl, by simpa [SM.es] using h⟩
  | _ :: _ :: _, _, h => by simp [SM.es] at h
def preR : Bs := [102, 110, 32, 102, 40, 41, 32, 123, 32, 114, 101, 116, 117, 114, 110, 32]
def postR : Bs := [59, 32, 125]
def RetIs (s : Bs) (e : Ex) : Prop := ∃ nm ps nm2 b els ts, PR (preR ++ s ++ postR) = .ok [⟨nm, ps, [.mk 7 nm2 e b els]⟩] ts
set_option maxHeartbeats 2000000 in
theorem returned_c (s : Bs) (e : Ex) (w : World) (hG : Rg w) (hl : s.length ≤ 900000) (h : RetIs s e) :
    Cl Tryd.prog 7 #[.string (bs s)] w (fun v w' => ∃ t, ET.e t = e ∧ v = .tuple #[t.v, .bool true] ∧ Hp nw w w' [trs [t]]) (fun _ _ => False) := by
  obtain ⟨nm, ps, nm2, b, els, ts, h⟩ := h
  refine calls_ex (args := [.string (bs s)]) T.ok Tryd.func7 rfl rfl rfl rfl ?_
  have H := Hp.begin nw w
  refine Sq.mk ?_
  ((conv => whnf); refine Al.hp H ?_; clear H; intro p2 _ H _)
  repeat' ((conv => whnf); first | (((with_reducible show Gd _ _ _); first | with_reducible refine Gd.t ?_ | with_reducible refine Gd.f ?_ | with_reducible refine Gd.dec (fun _ => ?_) (fun _ => ?_) | with_reducible refine Gd.beq (fun _ => ?_) (fun _ => ?_) | with_reducible refine Gd.bne (fun _ => ?_) (fun _ => ?_) | with_reducible refine Gd.not ?_ | refine Gd.t ?_ | refine Gd.f ?_ | with_reducible refine Gd.var (fun _ => ?_) (fun _ => ?_)) <;> first | (exfalso; omega) | skip) | with_reducible refine Sq.mk ?_ | ((with_reducible show Ld1 _ _ _); first | refine Ld1.h H ?_ | refine Ld1.rF ?_ | refine Ld1.r ?_) | ((with_reducible show Ld _ _ _ _); first | refine Ld.h H ?_ | refine Ld.r ?_) | ((with_reducible show Ix _ _ _ _ _); (first | refine Ix.h ?_ | refine Ix.ha ?_)) | (refine St.h H ?_; clear H; intro _ H))
  refine Sm.cat (l := preR) (m := s) (by simp [preR]; omega) ?_
  repeat' ((conv => whnf); first | (((with_reducible show Gd _ _ _); first | with_reducible refine Gd.t ?_ | with_reducible refine Gd.f ?_ | with_reducible refine Gd.dec (fun _ => ?_) (fun _ => ?_) | with_reducible refine Gd.beq (fun _ => ?_) (fun _ => ?_) | with_reducible refine Gd.bne (fun _ => ?_) (fun _ => ?_) | with_reducible refine Gd.not ?_ | refine Gd.t ?_ | refine Gd.f ?_ | with_reducible refine Gd.var (fun _ => ?_) (fun _ => ?_)) <;> first | (exfalso; omega) | skip) | with_reducible refine Sq.mk ?_ | ((with_reducible show Ld1 _ _ _); first | refine Ld1.h H ?_ | refine Ld1.rF ?_ | refine Ld1.r ?_) | ((with_reducible show Ld _ _ _ _); first | refine Ld.h H ?_ | refine Ld.r ?_) | ((with_reducible show Ix _ _ _ _ _); (first | refine Ix.h ?_ | refine Ix.ha ?_)) | (refine St.h H ?_; clear H; intro _ H))
  refine Sm.cat (l := preR ++ s) (m := postR) (by simp [preR, postR]; omega) ?_
  repeat' ((conv => whnf); first | (((with_reducible show Gd _ _ _); first | with_reducible refine Gd.t ?_ | with_reducible refine Gd.f ?_ | with_reducible refine Gd.dec (fun _ => ?_) (fun _ => ?_) | with_reducible refine Gd.beq (fun _ => ?_) (fun _ => ?_) | with_reducible refine Gd.bne (fun _ => ?_) (fun _ => ?_) | with_reducible refine Gd.not ?_ | refine Gd.t ?_ | refine Gd.f ?_ | with_reducible refine Gd.var (fun _ => ?_) (fun _ => ?_)) <;> first | (exfalso; omega) | skip) | with_reducible refine Sq.mk ?_ | ((with_reducible show Ld1 _ _ _); first | refine Ld1.h H ?_ | refine Ld1.rF ?_ | refine Ld1.r ?_) | ((with_reducible show Ld _ _ _ _); first | refine Ld.h H ?_ | refine Ld.r ?_) | ((with_reducible show Ix _ _ _ _ _); (first | refine Ix.h ?_ | refine Ix.ha ?_)) | (refine St.h H ?_; clear H; intro _ H))
  ((conv => whnf); refine Cl.mk (Parse_c (preR ++ s ++ postR) _ (hG.ext H.e)) ?_)
  intro v w2 hok
  rcases hok with ⟨m, ts2, A, c, hpr, rfl, hml, H'⟩ | ⟨e9, p9, hpr, rfl, ex⟩
  rotate_left
  · rw [h] at hpr; simp at hpr
  rw [h] at hpr
  have hm : m.map FM.e = [⟨nm, ps, [.mk 7 nm2 e b els]⟩] := by injection hpr with h1 h2; exact h1.symm
  obtain ⟨f, rfl, hf⟩ := fm_one hm
  obtain ⟨n1, P1, c1, ps1, B1, d1, b1⟩ := f
  simp only [FM.e, Fnc.mk.injEq] at hf
  obtain ⟨_, _, hb⟩ := hf
  obtain ⟨st, rfl, hst⟩ := sm_one hb
  obtain ⟨kd, nm3, ee, B2, cb2, bo, E2, ce2, el⟩ := st
  simp only [SM.e, St.mk.injEq] at hst
  obtain ⟨rfl, _, he, _, _⟩ := hst
  replace H := H.fr0L H' (fun c hc => by simp only [List.mem_cons, List.not_mem_nil, or_false] at hc; rcases hc with rfl | rfl <;> exact .inl rfl)
  clear H'
  simp only [List.cons_append, List.nil_append] at H
  obtain ⟨k1, o1, n2, a1, b2, A1, c2, l1⟩ := ee
  repeat' ((conv => whnf); first | ((with_reducible show Gd (bs _ == _) _ _); first | refine Gd.sY (by assumption) ?_ | refine Gd.sk (by assumption) ?_ | refine Gd.sN (by assumption) ?_) | ((conv => whnf); first | (((with_reducible show Gd _ _ _); first | with_reducible refine Gd.t ?_ | with_reducible refine Gd.f ?_ | with_reducible refine Gd.dec (fun _ => ?_) (fun _ => ?_) | with_reducible refine Gd.beq (fun _ => ?_) (fun _ => ?_) | with_reducible refine Gd.bne (fun _ => ?_) (fun _ => ?_) | with_reducible refine Gd.not ?_ | refine Gd.t ?_ | refine Gd.f ?_ | with_reducible refine Gd.var (fun _ => ?_) (fun _ => ?_)) <;> first | (exfalso; omega) | skip) | with_reducible refine Sq.mk ?_ | ((with_reducible show Ld1 _ _ _); first | refine Ld1.h H ?_ | refine Ld1.rF ?_ | refine Ld1.r ?_) | ((with_reducible show Ld _ _ _ _); first | refine Ld.h H ?_ | refine Ld.r ?_) | ((with_reducible show Ix _ _ _ _ _); (first | refine Ix.h ?_ | refine Ix.ha ?_)) | (refine St.h H ?_; clear H; intro _ H)) | refine Sm.strix T.ok ?_)
  ((conv => whnf); refine Al.hp H ?_; clear H; intro p4 _ H _)
  ((conv => whnf); refine Al.hp H ?_; clear H; intro p5 _ H _)
  ((conv => whnf); first | (((with_reducible show Gd _ _ _); first | with_reducible refine Gd.t ?_ | with_reducible refine Gd.f ?_ | with_reducible refine Gd.dec (fun _ => ?_) (fun _ => ?_) | with_reducible refine Gd.beq (fun _ => ?_) (fun _ => ?_) | with_reducible refine Gd.bne (fun _ => ?_) (fun _ => ?_) | with_reducible refine Gd.not ?_ | refine Gd.t ?_ | refine Gd.f ?_ | with_reducible refine Gd.var (fun _ => ?_) (fun _ => ?_)) <;> first | (exfalso; omega) | skip) | with_reducible refine Sq.mk ?_ | ((with_reducible show Ld1 _ _ _); first | refine Ld1.h H ?_ | refine Ld1.rF ?_ | refine Ld1.r ?_) | ((with_reducible show Ld _ _ _ _); first | refine Ld.h H ?_ | refine Ld.r ?_) | ((with_reducible show Ix _ _ _ _ _); (first | refine Ix.h ?_ | refine Ix.ha ?_)) | (refine St.h H ?_; clear H; intro _ H))
  ((conv => whnf); first | (((with_reducible show Gd _ _ _); first | with_reducible refine Gd.t ?_ | with_reducible refine Gd.f ?_ | with_reducible refine Gd.dec (fun _ => ?_) (fun _ => ?_) | with_reducible refine Gd.beq (fun _ => ?_) (fun _ => ?_) | with_reducible refine Gd.bne (fun _ => ?_) (fun _ => ?_) | with_reducible refine Gd.not ?_ | refine Gd.t ?_ | refine Gd.f ?_ | with_reducible refine Gd.var (fun _ => ?_) (fun _ => ?_)) <;> first | (exfalso; omega) | skip) | with_reducible refine Sq.mk ?_ | ((with_reducible show Ld1 _ _ _); first | refine Ld1.h H ?_ | refine Ld1.rF ?_ | refine Ld1.r ?_) | ((with_reducible show Ld _ _ _ _); first | refine Ld.h H ?_ | refine Ld.r ?_) | ((with_reducible show Ix _ _ _ _ _); (first | refine Ix.h ?_ | refine Ix.ha ?_)) | (refine St.h H ?_; clear H; intro _ H))
  have hfn := (H.atC (c := fns [⟨n1, P1, c1, ps1, B1, d1, [SM.mk 7 nm3 (ET.mk k1 o1 n2 a1 b2 A1 c2 l1) B2 cb2 bo E2 ce2 el]⟩]) 3 rfl).1.1
  have hst : RdS SM.enc 10 _ B1 [SM.mk 7 nm3 (ET.mk k1 o1 n2 a1 b2 A1 c2 l1) B2 cb2 bo E2 ce2 el] := hfn.2.1.rd
  have hx0 : [(⟨n1, P1, c1, ps1, B1, d1, [SM.mk 7 nm3 (ET.mk k1 o1 n2 a1 b2 A1 c2 l1) B2 cb2 bo E2 ce2 el]⟩ : FM)][0]? = some ⟨n1, P1, c1, ps1, B1, d1, [SM.mk 7 nm3 (ET.mk k1 o1 n2 a1 b2 A1 c2 l1) B2 cb2 bo E2 ce2 el]⟩ := rfl
  have hx1 : [SM.mk 7 nm3 (ET.mk k1 o1 n2 a1 b2 A1 c2 l1) B2 cb2 bo E2 ce2 el][0]? = some (SM.mk 7 nm3 (ET.mk k1 o1 n2 a1 b2 A1 c2 l1) B2 cb2 bo E2 ce2 el) := rfl
  repeat' ((conv => whnf); first | (((with_reducible show Gd _ _ _); first | with_reducible refine Gd.t ?_ | with_reducible refine Gd.f ?_ | with_reducible refine Gd.dec (fun _ => ?_) (fun _ => ?_) | with_reducible refine Gd.beq (fun _ => ?_) (fun _ => ?_) | with_reducible refine Gd.bne (fun _ => ?_) (fun _ => ?_) | with_reducible refine Gd.not ?_ | refine Gd.t ?_ | refine Gd.f ?_ | with_reducible refine Gd.var (fun _ => ?_) (fun _ => ?_)) <;> first | (exfalso; omega) | skip) | with_reducible refine Sq.mk ?_ | ((with_reducible show Ld1 _ _ _); first | refine Ld1.h H ?_ | refine Ld1.rF ?_ | refine Ld1.r ?_) | ((with_reducible show Ld _ _ _ _); first | refine Ld.h H ?_ | refine Ld.r ?_) | ((with_reducible show Ix _ _ _ _ _); (first | refine Ix.h ?_ | refine Ix.ha ?_)) | (refine Al.hp H ?_; clear H; intro _ _ H _) | (refine St.h H ?_; clear H; intro _ H))
  all_goals first | (exfalso; exact (by assumption : (_ : Int) ≠ _) rfl) | skip
  (conv => whnf)
  refine Ld.rsF (o := 2) (n := 6) hst hx1 rfl ?_
  repeat' ((conv => whnf); first | (((with_reducible show Gd _ _ _); first | with_reducible refine Gd.t ?_ | with_reducible refine Gd.f ?_ | with_reducible refine Gd.dec (fun _ => ?_) (fun _ => ?_) | with_reducible refine Gd.beq (fun _ => ?_) (fun _ => ?_) | with_reducible refine Gd.bne (fun _ => ?_) (fun _ => ?_) | with_reducible refine Gd.not ?_ | refine Gd.t ?_ | refine Gd.f ?_ | with_reducible refine Gd.var (fun _ => ?_) (fun _ => ?_)) <;> first | (exfalso; omega) | skip) | with_reducible refine Sq.mk ?_ | ((with_reducible show Ld1 _ _ _); first | refine Ld1.h H ?_ | refine Ld1.rF ?_ | refine Ld1.r ?_) | ((with_reducible show Ld _ _ _ _); first | refine Ld.h H ?_ | refine Ld.r ?_) | ((with_reducible show Ix _ _ _ _ _); (first | refine Ix.h ?_ | refine Ix.ha ?_)) | (refine Al.hp H ?_; clear H; intro _ _ H _) | (refine St.h H ?_; clear H; intro _ H))
  refine ⟨.mk k1 o1 n2 a1 b2 A1 c2 l1, he, rfl, ?_⟩
  refine Hp.less (e := fns [⟨n1, P1, c1, ps1, B1, d1, [SM.mk 7 nm3 (ET.mk k1 o1 n2 a1 b2 A1 c2 l1) B2 cb2 bo E2 ce2 el]⟩]) (H.sel [3] rfl) rfl (fun k hk => ?_) (fun h => ?_)
  · rcases hk with hk | hk
    · exact .inl (.inr (.inr (.inl (.inl hk))))
    · exact hk.elim
  · have h1 := h.holds.1.1.2.2.1.1
    have h2 := h.holds.2.1.1.1
    exact trs_ok ⟨h1.1, trivial⟩ ⟨h2.1, trivial, fun b hb => hb.2.elim⟩
end Go.Proofs.YtapdmkgdiaechaaDoor
namespace Go.Proofs.YtapdmkgdiaechaaDoor
open Go Go.Shelf
def itoa_ren : Go.Shelf.Ren := ⟨fun | 173 => 12 | 246 => 17 | 283 => 26 | 284 => 27 | 285 => 28 | 286 => 29 | 129 => 40 | 317 => 39 | 318 => 41 | 319 => 42 | 320 => 43 | 337 => 50 | 338 => 51 | n => n, fun | 2 => 2 | 3 => 3 | 9 => 9 | 4 => 4 | 171 => 84 | 0 => 0 | 53 => 85 | 37 => 88 | 5 => 5 | 173 => 89 | 212 => 111 | 51 => 112 | 20 => 20 | 213 => 113 | 46 => 115 | 232 => 127 | 233 => 128 | n => n, fun | 17 => 2 | 18 => 4 | 19 => 5 | n => n⟩
theorem itoa_lays : Go.Proofs.LaysM.n173 Tryd.prog itoa_ren := {
  mixed := by kernel_rfl,
  f129 := Tryd.func40.trans (congrArg some (by kernel_rfl)),
  f173 := Tryd.func12.trans (congrArg some (by kernel_rfl)),
  f246 := Tryd.func17.trans (congrArg some (by kernel_rfl)),
  f283 := Tryd.func26.trans (congrArg some (by kernel_rfl)),
  f284 := Tryd.func27.trans (congrArg some (by kernel_rfl)),
  f285 := Tryd.func28.trans (congrArg some (by kernel_rfl)),
  f286 := Tryd.func29.trans (congrArg some (by kernel_rfl)),
  f317 := Tryd.func39.trans (congrArg some (by kernel_rfl)),
  f318 := Tryd.func41.trans (congrArg some (by kernel_rfl)),
  f319 := Tryd.func42.trans (congrArg some (by kernel_rfl)),
  f320 := Tryd.func43.trans (congrArg some (by kernel_rfl)),
  f337 := Tryd.func50.trans (congrArg some (by kernel_rfl)),
  f338 := Tryd.func51.trans (congrArg some (by kernel_rfl)),
  t0 := Tryd.underlying0,
  a0 := Tryd.isAgg0,
  z0 := Tryd.sizeOf0,
  v0 := Tryd.zeroValue0,
  t2 := Tryd.underlying2,
  a2 := Tryd.isAgg2,
  z2 := Tryd.sizeOf2,
  v2 := Tryd.zeroValue2,
  t3 := Tryd.underlying3,
  a3 := Tryd.isAgg3,
  z3 := Tryd.sizeOf3,
  v3 := Tryd.zeroValue3,
  t4 := Tryd.underlying4,
  a4 := Tryd.isAgg4,
  z4 := Tryd.sizeOf4,
  v4 := Tryd.zeroValue4,
  t5 := Tryd.underlying5,
  a5 := Tryd.isAgg5,
  z5 := Tryd.sizeOf5,
  v5 := Tryd.zeroValue5,
  t9 := Tryd.underlying9,
  a9 := Tryd.isAgg9,
  z9 := Tryd.sizeOf9,
  v9 := Tryd.zeroValue9,
  t20 := Tryd.underlying20,
  a20 := Tryd.isAgg20,
  z20 := Tryd.sizeOf20,
  v20 := Tryd.zeroValue20,
  t37 := Tryd.underlying88,
  a37 := Tryd.isAgg88,
  z37 := Tryd.sizeOf88,
  v37 := Tryd.zeroValue88,
  t46 := Tryd.underlying115,
  a46 := Tryd.isAgg115,
  z46 := Tryd.sizeOf115,
  v46 := Tryd.zeroValue115,
  t51 := Tryd.underlying112,
  a51 := Tryd.isAgg112,
  z51 := Tryd.sizeOf112,
  v51 := Tryd.zeroValue112,
  t53 := Tryd.underlying85,
  a53 := Tryd.isAgg85,
  z53 := Tryd.sizeOf85,
  v53 := Tryd.zeroValue85,
  t171 := Tryd.underlying84,
  a171 := Tryd.isAgg84,
  z171 := Tryd.sizeOf84,
  v171 := Tryd.zeroValue84,
  t173 := Tryd.underlying89,
  a173 := Tryd.isAgg89,
  z173 := Tryd.sizeOf89,
  v173 := Tryd.zeroValue89,
  t212 := Tryd.underlying111,
  a212 := Tryd.isAgg111,
  z212 := Tryd.sizeOf111,
  v212 := Tryd.zeroValue111,
  t213 := Tryd.underlying113,
  a213 := Tryd.isAgg113,
  z213 := Tryd.sizeOf113,
  t232 := Tryd.underlying127,
  a232 := Tryd.isAgg127,
  z232 := Tryd.sizeOf127,
  v232 := Tryd.zeroValue127,
  t233 := Tryd.underlying128,
  a233 := Tryd.isAgg128,
  z233 := Tryd.sizeOf128,
  v233 := Tryd.zeroValue128,
  g17 := by kernel_rfl,
  g18 := by kernel_rfl,
  g19 := by kernel_rfl,
  i0 := by kernel_rfl,
  i2 := by kernel_rfl,
  i3 := by kernel_rfl,
  i4 := by kernel_rfl,
  i5 := by kernel_rfl,
  i9 := by kernel_rfl,
  i20 := by kernel_rfl,
  i37 := by kernel_rfl,
  i46 := by kernel_rfl,
  i51 := by kernel_rfl,
  i53 := by kernel_rfl,
  i171 := by kernel_rfl,
  i173 := by kernel_rfl,
  i212 := by kernel_rfl,
  i232 := by kernel_rfl,
  i233 := by kernel_rfl,
  m17 := by kernel_rfl,
  m18 := by kernel_rfl,
  m19 := by kernel_rfl }
end Go.Proofs.YtapdmkgdiaechaaDoor
namespace Go.Tx
def Digs (s : Bs) : Prop := ∀ c ∈ s, digit c = true
theorem val_app (a : Bs) (c : UInt8) : val (a ++ [c]) = val a * 10 + (c.toNat - 48) := by simp [val]
theorem val_le (a : Bs) : ∀ b : Bs, val a ≤ val (a ++ b)
  | [] => by simp
  | c :: b => by
    have h := val_le (a ++ [c]) b
    rw [List.append_assoc] at h
    have h2 := val_app a c
    simp only [List.cons_append, List.nil_append] at h
    omega
theorem val_take (s : Bs) (q : Nat) : val (s.take q) ≤ val s := by
  have h := val_le (s.take q) (s.drop q)
  rwa [List.take_append_drop] at h
theorem dig_range {c : UInt8} (h : digit c = true) : 48 ≤ c.toNat ∧ c.toNat ≤ 57 := by simpa [digit] using h
theorem val_pos {a : Bs} (hd : Digs a) (hne : a ≠ []) (h0 : a.head?.map UInt8.toNat ≠ some 48) : 1 ≤ val a := by
  cases a with
  | nil => exact absurd rfl hne
  | cons c r =>
    have h1 := val_le [c] r
    have h2 := dig_range (hd c (by simp))
    simp only [List.head?_cons, Option.map_some, ne_eq, Option.some.injEq] at h0
    have h3 : val [c] = c.toNat - 48 := by simp [val]
    simp only [List.cons_append, List.nil_append] at h1
    omega
theorem of_nat {c : UInt8} {n : Nat} (h : c.toNat = n) : UInt8.ofNat n = c := by rw [← h]; simp
theorem dec_val : ∀ (n : Nat) (s : Bs), s.length = n → Digs s → s ≠ [] → s.head?.map UInt8.toNat ≠ some 48 → Go.Lib.decDigits (val s) = s
  | 0, s, hn, _, hne, _ => absurd (List.eq_nil_of_length_eq_zero hn) hne
  | n + 1, s, hn, hd, hne, h0 => by
    obtain ⟨a, c, rfl⟩ : ∃ a c, s = a ++ [c] := ⟨s.dropLast, s.getLast hne, (List.dropLast_concat_getLast hne).symm⟩
    have hc := dig_range (hd c (by simp))
    rw [val_app]
    by_cases ha : a = []
    · subst ha
      simp only [show val ([] : Bs) = 0 from rfl, Nat.zero_mul, Nat.zero_add, List.nil_append]
      rw [Go.Lib.decDigits, dif_pos (by omega), of_nat (c := c) (by omega)]
    · have hda : Digs a := fun x hx => hd x (by simp [hx])
      have hh : a.head? = (a ++ [c]).head? := by cases a with
        | nil => exact absurd rfl ha
        | cons x r => rfl
      rw [← hh] at h0
      have hp := val_pos hda ha h0
      have ih := dec_val n a (by simpa using hn) hda ha h0
      rw [Go.Lib.decDigits, dif_neg (by omega)]
      have h1 : (val a * 10 + (c.toNat - 48)) / 10 = val a := by omega
      have h2 : (val a * 10 + (c.toNat - 48)) % 10 = c.toNat - 48 := by omega
      rw [h1, h2, ih, of_nat (c := c) (by omega)]
theorem dec_ne (m : Nat) : Go.Lib.decDigits m ≠ [] := by
  rw [Go.Lib.decDigits]
  split <;> simp
theorem dec_head (m : Nat) : 1 ≤ m → (Go.Lib.decDigits m).head?.map UInt8.toNat ≠ some 48 := by
  induction m using Nat.strongRecOn with
  | _ m ih =>
    intro hm
    rw [Go.Lib.decDigits]
    split
    · rename_i h
      simp only [List.head?_cons, Option.map_some, ne_eq, Option.some.injEq, UInt8.toNat_ofNat']
      omega
    · rename_i h
      have hne := dec_ne (m / 10)
      have := ih (m / 10) (by omega) (by omega)
      cases hx : Go.Lib.decDigits (m / 10) with
      | nil => exact absurd hx hne
      | cons x r => rw [hx] at this; exact this
theorem dec_dig (m : Nat) : Digs (Go.Lib.decDigits m) := by
  induction m using Nat.strongRecOn with
  | _ m ih =>
    intro c hc
    rw [Go.Lib.decDigits] at hc
    have key : ∀ k, k < 10 → digit (UInt8.ofNat (48 + k)) = true := fun k hk => by
      simp only [digit, decide_eq_true_eq, UInt8.toNat_ofNat']
      omega
    split at hc
    · rename_i h
      rw [List.mem_singleton.1 hc]
      exact key m h
    · rename_i h
      rcases List.mem_append.1 hc with h1 | h1
      · exact ih (m / 10) (by omega) c h1
      · rw [List.mem_singleton.1 h1]
        exact key (m % 10) (by omega)
theorem val_dec (m : Nat) : val (Go.Lib.decDigits m) = m := by
  induction m using Nat.strongRecOn with
  | _ m ih =>
    rw [Go.Lib.decDigits]
    split
    · rename_i h
      simp only [val, List.foldl_cons, List.foldl_nil, UInt8.toNat_ofNat']
      omega
    · rename_i h
      rw [val_app, ih (m / 10) (by omega), UInt8.toNat_ofNat']
      omega
theorem neg_itoa {s : Bs} (hd : Digs s) (hne : s ≠ []) : Go.Lib.itoa (-(val s : Int)) = 45 :: s ↔ s.head?.map UInt8.toNat ≠ some 48 := by
  unfold Go.Lib.itoa
  constructor
  · intro h h0
    by_cases hv : val s = 0
    · rw [hv, if_neg (by decide)] at h
      rw [Go.Lib.decDigits, dif_pos (by decide)] at h
      simp at h
    · rw [if_pos (by omega)] at h
      have h1 : (-(val s : Int)).natAbs = val s := by omega
      rw [h1] at h
      have h2 := (List.cons.inj h).2
      have h3 := dec_head (val s) (by omega)
      rw [h2] at h3
      exact h3 h0
  · intro h0
    have hp := val_pos hd hne h0
    rw [if_pos (by omega), show (-(val s : Int)).natAbs = val s by omega, dec_val _ s rfl hd hne h0]
end Go.Tx
namespace Go.Proofs.YtapdmkgdiaechaaDoor
open Go Go.Sh Go.Tx
set_option linter.unusedVariables false
set_option linter.unusedSimpArgs false
set_option linter.unusedSectionVars false
theorem ext_grow (w : World) (k : Nat) (os : Array Obj) : Ext w (Go.Sort.grow (w.drewN k) os) :=
  ⟨rfl, rfl, rfl, by simp [Go.Sort.grow, World.drewN], fun i hi => by
    show (w.heap ++ os)[i]? = w.heap[i]?
    exact Array.getElem?_append_left hi⟩
attribute [local irreducible] Blk Ext RdS
/-- the library's table of tens -/
abbrev Pow (w : World) : Prop := Go.Lib.TabIs Tryd.prog w "internal/strconv.uint64pow10" .u64 Go.Lib.pow10Tab
theorem format_c (n : Int) (w : World) (h0 : -9223372036854775808 ≤ n) (h1 : n ≤ 9223372036854775807) (hP : Pow w) :
    Cl Tryd.prog 10 #[.int .i64 n] w (fun v w' => v = .string (bs (Go.Lib.itoa n)) ∧ Ext w w') (fun _ _ => False) := by
  have hc : Cl Tryd.prog 12 #[.int .i64 n, .int .i64 10] w (fun v w' => v = .string (bs (Go.Lib.itoa n)) ∧ Ext w w') (fun _ _ => False) := by
    refine ⟨Calls.mono (show Calls Tryd.prog 12 #[.int .i64 n, .int .i64 10] w _ from Any.strconv_FormatInt_10 itoa_lays n h0 h1 w hP) ?_⟩
    rintro e w' ⟨rfl, k, os, rfl⟩
    exact ⟨rfl, ext_grow w k os⟩
  refine calls_ex (args := [.int .i64 n]) T.ok Tryd.func10 rfl rfl rfl rfl ?_
  have H := Hp.begin nw w
  repeat' ((conv => whnf); first | (((with_reducible show Gd _ _ _); first | with_reducible refine Gd.t ?_ | with_reducible refine Gd.f ?_ | with_reducible refine Gd.dec (fun _ => ?_) (fun _ => ?_) | with_reducible refine Gd.beq (fun _ => ?_) (fun _ => ?_) | with_reducible refine Gd.bne (fun _ => ?_) (fun _ => ?_) | with_reducible refine Gd.not ?_ | refine Gd.t ?_ | refine Gd.f ?_ | with_reducible refine Gd.var (fun _ => ?_) (fun _ => ?_)) <;> first | (exfalso; omega) | skip) | with_reducible refine Sq.mk ?_ | ((with_reducible show Ld1 _ _ _); first | refine Ld1.h H ?_ | refine Ld1.rF ?_ | refine Ld1.r ?_) | ((with_reducible show Ld _ _ _ _); first | refine Ld.h H ?_ | refine Ld.r ?_) | ((with_reducible show Ix _ _ _ _ _); (first | refine Ix.h ?_ | refine Ix.ha ?_)) | (refine Al.hp H ?_; clear H; intro _ _ H _) | (refine St.h H ?_; clear H; intro _ H))
  (((conv => whnf); refine Cl.mk (hc) ?_); rintro _ _ ⟨rfl, hx⟩; replace H := H.ext hx; clear hx)
  repeat' ((conv => whnf); first | (((with_reducible show Gd _ _ _); first | with_reducible refine Gd.t ?_ | with_reducible refine Gd.f ?_ | with_reducible refine Gd.dec (fun _ => ?_) (fun _ => ?_) | with_reducible refine Gd.beq (fun _ => ?_) (fun _ => ?_) | with_reducible refine Gd.bne (fun _ => ?_) (fun _ => ?_) | with_reducible refine Gd.not ?_ | refine Gd.t ?_ | refine Gd.f ?_ | with_reducible refine Gd.var (fun _ => ?_) (fun _ => ?_)) <;> first | (exfalso; omega) | skip) | with_reducible refine Sq.mk ?_ | ((with_reducible show Ld1 _ _ _); first | refine Ld1.h H ?_ | refine Ld1.rF ?_ | refine Ld1.r ?_) | ((with_reducible show Ld _ _ _ _); first | refine Ld.h H ?_ | refine Ld.r ?_) | ((with_reducible show Ix _ _ _ _ _); (first | refine Ix.h ?_ | refine Ix.ha ?_)) | (refine Al.hp H ?_; clear H; intro _ _ H _) | (refine St.h H ?_; clear H; intro _ H))
  exact ⟨rfl, H.e⟩
theorem run_quo {P : Program} {t : Nat} {a b : Int} {xo yo : Operand} (hb : b ≠ 0) (w : World) : (do eqGuard .quo t xo yo (.int .i64 a) (.int .i64 b); binOp .quo t (.int .i64 a) (.int .i64 b) : Sem Value).run P w = .ok (.int .i64 (IntKind.i64.wrap (a.tdiv b))) w := by
  have hg : (eqGuard .quo t xo yo (.int .i64 a) (.int .i64 b)).run P w = .ok () w := by unfold eqGuard; simp
  simp [hg, binOp, Op.intDiv, hb]
theorem quo_ten {d : Nat} (h : d ≤ 9) : IntKind.i64.wrap (Int.tdiv (IntKind.i64.wrap (-9223372036854775808 + (d : Int))) 10) = -(((9223372036854775808 - d) / 10 : Nat) : Int) := by
  have h1 : IntKind.i64.wrap (-9223372036854775808 + (d : Int)) = -((9223372036854775808 - d : Nat) : Int) := by
    rw [show (-9223372036854775808 + (d : Int)) = -((9223372036854775808 - d : Nat) : Int) by omega]
    exact w64 rfl (by omega) (by omega)
  rw [h1, Int.neg_tdiv, Int.tdiv_eq_ediv_of_nonneg (by omega)]
  exact w64 (by omega) (by omega) (by omega)
theorem parse_c (s : Bs) (w : World) (hd : AllDig s) (hne : s ≠ []) (h48 : s ≠ [48]) (hP : ∀ w', Ext w w' → Pow w') :
    Cl Tryd.prog 45 #[.string (bs (45 :: s))] w (fun v w' => ∃ n e, v = .tuple #[.int .i64 n, .int .i64 e] ∧ (negOf s = some n ∧ e = 0 ∨ negOf s = none ∧ n = 0 ∧ e ≠ 0) ∧ Ext w w') (fun _ _ => False) := by
  refine calls_ex (args := [.string (bs (45 :: s))]) T.ok Tryd.func45 rfl rfl rfl rfl ?_
  have H := Hp.begin nw w
  have hsz := bs_size (45 :: s)
  rw [List.length_cons] at hsz
  by_cases hlong : 19 < s.length
  · have hn : negOf s = none := by unfold negOf; rw [if_neg h48, if_pos (.inl hlong)]
    repeat' ((conv => whnf); first | (((with_reducible show Gd _ _ _); first | with_reducible refine Gd.t ?_ | with_reducible refine Gd.f ?_ | with_reducible refine Gd.dec (fun _ => ?_) (fun _ => ?_) | with_reducible refine Gd.beq (fun _ => ?_) (fun _ => ?_) | with_reducible refine Gd.bne (fun _ => ?_) (fun _ => ?_) | with_reducible refine Gd.not ?_ | refine Gd.t ?_ | refine Gd.f ?_ | with_reducible refine Gd.var (fun _ => ?_) (fun _ => ?_)) <;> first | (exfalso; omega) | skip) | with_reducible refine Sq.mk ?_ | ((with_reducible show Ld1 _ _ _); first | refine Ld1.h H ?_ | refine Ld1.rF ?_ | refine Ld1.r ?_) | ((with_reducible show Ld _ _ _ _); first | refine Ld.h H ?_ | refine Ld.r ?_) | ((with_reducible show Ix _ _ _ _ _); (first | refine Ix.h ?_ | refine Ix.ha ?_)) | (refine Al.hp H ?_; clear H; intro _ _ H _) | (refine St.h H ?_; clear H; intro _ H))
    all_goals first | (exfalso; omega) | skip
    exact ⟨0, 2, rfl, .inr ⟨hn, rfl, by decide⟩, H.e⟩
  repeat' ((conv => whnf); first | (((with_reducible show Gd _ _ _); first | with_reducible refine Gd.t ?_ | with_reducible refine Gd.f ?_ | with_reducible refine Gd.dec (fun _ => ?_) (fun _ => ?_) | with_reducible refine Gd.beq (fun _ => ?_) (fun _ => ?_) | with_reducible refine Gd.bne (fun _ => ?_) (fun _ => ?_) | with_reducible refine Gd.not ?_ | refine Gd.t ?_ | refine Gd.f ?_ | with_reducible refine Gd.var (fun _ => ?_) (fun _ => ?_)) <;> first | (exfalso; omega) | skip) | with_reducible refine Sq.mk ?_ | ((with_reducible show Ld1 _ _ _); first | refine Ld1.h H ?_ | refine Ld1.rF ?_ | refine Ld1.r ?_) | ((with_reducible show Ld _ _ _ _); first | refine Ld.h H ?_ | refine Ld.r ?_) | ((with_reducible show Ix _ _ _ _ _); (first | refine Ix.h ?_ | refine Ix.ha ?_)) | (refine Al.hp H ?_; clear H; intro _ _ H _) | (refine St.h H ?_; clear H; intro _ H))
  all_goals first | (exfalso; omega) | skip
  refine Sm.srange H T.ok (fun r w1 H hr => ?_)
  repeat' ((conv => whnf); first | (((with_reducible show Gd _ _ _); first | with_reducible refine Gd.t ?_ | with_reducible refine Gd.f ?_ | with_reducible refine Gd.dec (fun _ => ?_) (fun _ => ?_) | with_reducible refine Gd.beq (fun _ => ?_) (fun _ => ?_) | with_reducible refine Gd.bne (fun _ => ?_) (fun _ => ?_) | with_reducible refine Gd.not ?_ | refine Gd.t ?_ | refine Gd.f ?_ | with_reducible refine Gd.var (fun _ => ?_) (fun _ => ?_)) <;> first | (exfalso; omega) | skip) | with_reducible refine Sq.mk ?_ | ((with_reducible show Ld1 _ _ _); first | refine Ld1.h H ?_ | refine Ld1.rF ?_ | refine Ld1.r ?_) | ((with_reducible show Ld _ _ _ _); first | refine Ld.h H ?_ | refine Ld.r ?_) | ((with_reducible show Ix _ _ _ _ _); (first | refine Ix.h ?_ | refine Ix.ha ?_)) | (refine Al.hp H ?_; clear H; intro _ _ H _) | (refine St.h H ?_; clear H; intro _ H))
  refine Lp.g0 T.ok (σ := Nat) (fun p => [(4, .int .i64 (-(val (s.take (p - 1)) : Int))), (5, .bool (decide (p ≠ 0))), (6, .int .i64 ((p - 1 : Nat) : Int)), (14, .pointer (some ⟨r, 0, none⟩)), (0, .string (bs (45 :: s))), (2, .int .i64 0), (3, .int .i64 0)])
    (fun p w' => p ≤ s.length + 1 ∧ val (s.take (p - 1)) ≤ 9223372036854775808 ∧ Hp nw w w' [si r (45 :: s) p]) (fun p _ => s.length + 1 - p) 0 rfl ⟨at_val rfl (by simp [val]), rfl, rfl, rfl, rfl, rfl, rfl, trivial⟩ ⟨Nat.zero_le _, by simp [val], H⟩ ?_
  clear H
  rintro p w5 ⟨hp, hv, H⟩
  have h45 : UInt8.toNat 45 = 45 := rfl
  have hfin : negOf s = if 9223372036854775808 < val s ∨ s.head?.map UInt8.toNat = some 48 then none else some (-(val s : Int)) := by
    unfold negOf
    rw [if_neg h48]
    by_cases h : 9223372036854775808 < val s ∨ s.head?.map UInt8.toNat = some 48
    · rw [if_pos (.inr h), if_pos h]
    · rw [if_neg (fun e => e.elim hlong h), if_neg h]
  cases p with
  | zero =>
    repeat' ((conv => whnf); first | (((with_reducible show Gd _ _ _); first | with_reducible refine Gd.t ?_ | with_reducible refine Gd.f ?_ | with_reducible refine Gd.dec (fun _ => ?_) (fun _ => ?_) | with_reducible refine Gd.beq (fun _ => ?_) (fun _ => ?_) | with_reducible refine Gd.bne (fun _ => ?_) (fun _ => ?_) | with_reducible refine Gd.not ?_ | refine Gd.t ?_ | refine Gd.f ?_ | with_reducible refine Gd.var (fun _ => ?_) (fun _ => ?_)) <;> first | (exfalso; omega) | skip) | with_reducible refine Sq.mk ?_ | ((with_reducible show Ld1 _ _ _); first | refine Ld1.h H ?_ | refine Ld1.rF ?_ | refine Ld1.r ?_) | ((with_reducible show Ld _ _ _ _); first | refine Ld.h H ?_ | refine Ld.r ?_) | ((with_reducible show Ix _ _ _ _ _); (first | refine Ix.h ?_ | refine Ix.ha ?_)) | (refine Al.hp H ?_; clear H; intro _ _ H _) | (refine St.h H ?_; clear H; intro _ H))
    refine Sm.snext (b := 45) H rfl (by decide) (fun w6 H => ?_)
    simp only [List.nil_append] at H
    repeat' ((conv => whnf); first | (((with_reducible show Gd _ _ _); first | with_reducible refine Gd.t ?_ | with_reducible refine Gd.f ?_ | with_reducible refine Gd.dec (fun _ => ?_) (fun _ => ?_) | with_reducible refine Gd.beq (fun _ => ?_) (fun _ => ?_) | with_reducible refine Gd.bne (fun _ => ?_) (fun _ => ?_) | with_reducible refine Gd.not ?_ | refine Gd.t ?_ | refine Gd.f ?_ | with_reducible refine Gd.var (fun _ => ?_) (fun _ => ?_)) <;> first | (exfalso; omega) | skip) | with_reducible refine Sq.mk ?_ | ((with_reducible show Ld1 _ _ _); first | refine Ld1.h H ?_ | refine Ld1.rF ?_ | refine Ld1.r ?_) | ((with_reducible show Ld _ _ _ _); first | refine Ld.h H ?_ | refine Ld.r ?_) | ((with_reducible show Ix _ _ _ _ _); (first | refine Ix.h ?_ | refine Ix.ha ?_)) | (refine Al.hp H ?_; clear H; intro _ _ H _) | (refine St.h H ?_; clear H; intro _ H))
    all_goals first | (exfalso; omega) | skip
    exact ⟨1, ⟨at_val rfl (by simp [val]), rfl, rfl, rfl, rfl, rfl, rfl, trivial⟩, rfl, ⟨by omega, by simp [val], H⟩, by omega⟩
  | succ q =>
    simp only [Nat.add_sub_cancel] at hv
    by_cases hq : q < s.length
    · obtain ⟨c, hc⟩ : ∃ c, s[q]? = some c := ⟨_, List.getElem?_eq_getElem hq⟩
      obtain ⟨hc1, hc2⟩ := List.getElem?_eq_some_iff.1 hc
      have hdc := hd c (List.mem_of_getElem? hc)
      simp only [digit, decide_eq_true_eq] at hdc
      have htk : s.take (q + 1) = s.take q ++ [c] := by rw [List.take_add_one, hc]; rfl
      have hval : val (s.take (q + 1)) = val (s.take q) * 10 + (c.toNat - 48) := by rw [htk]; simp [val]
      repeat' ((conv => whnf); first | (((with_reducible show Gd _ _ _); first | with_reducible refine Gd.t ?_ | with_reducible refine Gd.f ?_ | with_reducible refine Gd.dec (fun _ => ?_) (fun _ => ?_) | with_reducible refine Gd.beq (fun _ => ?_) (fun _ => ?_) | with_reducible refine Gd.bne (fun _ => ?_) (fun _ => ?_) | with_reducible refine Gd.not ?_ | refine Gd.t ?_ | refine Gd.f ?_ | with_reducible refine Gd.var (fun _ => ?_) (fun _ => ?_)) <;> first | (exfalso; omega) | skip) | with_reducible refine Sq.mk ?_ | ((with_reducible show Ld1 _ _ _); first | refine Ld1.h H ?_ | refine Ld1.rF ?_ | refine Ld1.r ?_) | ((with_reducible show Ld _ _ _ _); first | refine Ld.h H ?_ | refine Ld.r ?_) | ((with_reducible show Ix _ _ _ _ _); (first | refine Ix.h ?_ | refine Ix.ha ?_)) | (refine Al.hp H ?_; clear H; intro _ _ H _) | (refine St.h H ?_; clear H; intro _ H))
      refine Sm.snext (b := c) H (show (45 :: s)[q + 1]? = some c from hc) (by omega) (fun w6 H => ?_)
      simp only [List.nil_append] at H
      repeat' ((conv => whnf); first | (((with_reducible show Gd _ _ _); first | with_reducible refine Gd.t ?_ | with_reducible refine Gd.f ?_ | with_reducible refine Gd.dec (fun _ => ?_) (fun _ => ?_) | with_reducible refine Gd.beq (fun _ => ?_) (fun _ => ?_) | with_reducible refine Gd.bne (fun _ => ?_) (fun _ => ?_) | with_reducible refine Gd.not ?_ | refine Gd.t ?_ | refine Gd.f ?_ | with_reducible refine Gd.var (fun _ => ?_) (fun _ => ?_)) <;> first | (exfalso; omega) | skip) | with_reducible refine Sq.mk ?_ | ((with_reducible show Ld1 _ _ _); first | refine Ld1.h H ?_ | refine Ld1.rF ?_ | refine Ld1.r ?_) | ((with_reducible show Ld _ _ _ _); first | refine Ld.h H ?_ | refine Ld.r ?_) | ((with_reducible show Ix _ _ _ _ _); (first | refine Ix.h ?_ | refine Ix.ha ?_)) | (refine Al.hp H ?_; clear H; intro _ _ H _) | (refine St.h H ?_; clear H; intro _ H))
      all_goals first | (exfalso; omega) | skip
      generalize hdn : c.toNat - 48 = d at hval
      have hd9 : d ≤ 9 := by omega
      have hwd : IntKind.i64.wrap (IntKind.i32.wrap ((c.toNat : Int) - 48)) = (d : Int) := by
        rw [show ((c.toNat : Int) - 48) = (d : Int) by omega]
        simp [IntKind.wrap, IntKind.signed, IntKind.bits]
        omega
      (conv => whnf)
      rw [hwd]
      refine Sm.ran (run_quo (by decide) _) ?_
      rw [quo_ten hd9]
      repeat' ((conv => whnf); first | (((with_reducible show Gd _ _ _); first | with_reducible refine Gd.t ?_ | with_reducible refine Gd.f ?_ | with_reducible refine Gd.dec (fun _ => ?_) (fun _ => ?_) | with_reducible refine Gd.beq (fun _ => ?_) (fun _ => ?_) | with_reducible refine Gd.bne (fun _ => ?_) (fun _ => ?_) | with_reducible refine Gd.not ?_ | refine Gd.t ?_ | refine Gd.f ?_ | with_reducible refine Gd.var (fun _ => ?_) (fun _ => ?_)) <;> first | (exfalso; omega) | skip) | with_reducible refine Sq.mk ?_ | ((with_reducible show Ld1 _ _ _); first | refine Ld1.h H ?_ | refine Ld1.rF ?_ | refine Ld1.r ?_) | ((with_reducible show Ld _ _ _ _); first | refine Ld.h H ?_ | refine Ld.r ?_) | ((with_reducible show Ix _ _ _ _ _); (first | refine Ix.h ?_ | refine Ix.ha ?_)) | (refine Al.hp H ?_; clear H; intro _ _ H _) | (refine St.h H ?_; clear H; intro _ H))
      · rename_i hlt
        simp only [Nat.add_sub_cancel] at hlt
        have hvl := val_take s (q + 1)
        repeat' ((conv => whnf); first | (((with_reducible show Gd _ _ _); first | with_reducible refine Gd.t ?_ | with_reducible refine Gd.f ?_ | with_reducible refine Gd.dec (fun _ => ?_) (fun _ => ?_) | with_reducible refine Gd.beq (fun _ => ?_) (fun _ => ?_) | with_reducible refine Gd.bne (fun _ => ?_) (fun _ => ?_) | with_reducible refine Gd.not ?_ | refine Gd.t ?_ | refine Gd.f ?_ | with_reducible refine Gd.var (fun _ => ?_) (fun _ => ?_)) <;> first | (exfalso; omega) | skip) | with_reducible refine Sq.mk ?_ | ((with_reducible show Ld1 _ _ _); first | refine Ld1.h H ?_ | refine Ld1.rF ?_ | refine Ld1.r ?_) | ((with_reducible show Ld _ _ _ _); first | refine Ld.h H ?_ | refine Ld.r ?_) | ((with_reducible show Ix _ _ _ _ _); (first | refine Ix.h ?_ | refine Ix.ha ?_)) | (refine Al.hp H ?_; clear H; intro _ _ H _) | (refine St.h H ?_; clear H; intro _ H))
        exact ⟨0, 4, rfl, .inr ⟨by rw [hfin, if_pos (.inl (by omega))], rfl, by decide⟩, H.e⟩
      · rename_i hlt
        simp only [Nat.add_sub_cancel] at hlt
        repeat' ((conv => whnf); first | (((with_reducible show Gd _ _ _); first | with_reducible refine Gd.t ?_ | with_reducible refine Gd.f ?_ | with_reducible refine Gd.dec (fun _ => ?_) (fun _ => ?_) | with_reducible refine Gd.beq (fun _ => ?_) (fun _ => ?_) | with_reducible refine Gd.bne (fun _ => ?_) (fun _ => ?_) | with_reducible refine Gd.not ?_ | refine Gd.t ?_ | refine Gd.f ?_ | with_reducible refine Gd.var (fun _ => ?_) (fun _ => ?_)) <;> first | (exfalso; omega) | skip) | with_reducible refine Sq.mk ?_ | ((with_reducible show Ld1 _ _ _); first | refine Ld1.h H ?_ | refine Ld1.rF ?_ | refine Ld1.r ?_) | ((with_reducible show Ld _ _ _ _); first | refine Ld.h H ?_ | refine Ld.r ?_) | ((with_reducible show Ix _ _ _ _ _); (first | refine Ix.h ?_ | refine Ix.ha ?_)) | (refine Al.hp H ?_; clear H; intro _ _ H _) | (refine St.h H ?_; clear H; intro _ H))
        have h10 : IntKind.i64.wrap (-(val (s.take q) : Int) * 10) = -((val (s.take q) * 10 : Nat) : Int) := w64 (by omega) (by omega) (by omega)
        have hnew : IntKind.i64.wrap (IntKind.i64.wrap (-(val (s.take q) : Int) * 10) - (d : Int)) = -(val (s.take (q + 1)) : Int) := by
          rw [h10]
          exact w64 (by omega) (by omega) (by omega)
        refine ⟨q + 1 + 1, ⟨at_int rfl hnew, at_val rfl (by simp), at_int rfl (w64 (by omega) (by omega) (by omega)), rfl, rfl, rfl, rfl, trivial⟩, rfl, ⟨by omega, ?_, H⟩, by omega⟩
        show val (s.take (q + 1)) ≤ _
        omega
    · have hql : q = s.length := by omega
      subst hql
      have hs1 : 1 ≤ s.length := by
        cases s with
        | nil => exact absurd rfl hne
        | cons x r => simp
      have htk : s.take (s.length + 1 - 1) = s := by simp
      have hvs : val (s.take (s.length + 1 - 1)) ≤ 9223372036854775808 := by rw [htk]; rwa [List.take_length] at hv
      have hin := neg_itoa hd hne
      repeat' ((conv => whnf); first | (((with_reducible show Gd _ _ _); first | with_reducible refine Gd.t ?_ | with_reducible refine Gd.f ?_ | with_reducible refine Gd.dec (fun _ => ?_) (fun _ => ?_) | with_reducible refine Gd.beq (fun _ => ?_) (fun _ => ?_) | with_reducible refine Gd.bne (fun _ => ?_) (fun _ => ?_) | with_reducible refine Gd.not ?_ | refine Gd.t ?_ | refine Gd.f ?_ | with_reducible refine Gd.var (fun _ => ?_) (fun _ => ?_)) <;> first | (exfalso; omega) | skip) | with_reducible refine Sq.mk ?_ | ((with_reducible show Ld1 _ _ _); first | refine Ld1.h H ?_ | refine Ld1.rF ?_ | refine Ld1.r ?_) | ((with_reducible show Ld _ _ _ _); first | refine Ld.h H ?_ | refine Ld.r ?_) | ((with_reducible show Ix _ _ _ _ _); (first | refine Ix.h ?_ | refine Ix.ha ?_)) | (refine Al.hp H ?_; clear H; intro _ _ H _) | (refine St.h H ?_; clear H; intro _ H))
      refine Sm.send (l := 45 :: s) (p := s.length + 1) H (Nat.le_refl _) ?_
      repeat' ((conv => whnf); first | (((with_reducible show Gd _ _ _); first | with_reducible refine Gd.t ?_ | with_reducible refine Gd.f ?_ | with_reducible refine Gd.dec (fun _ => ?_) (fun _ => ?_) | with_reducible refine Gd.beq (fun _ => ?_) (fun _ => ?_) | with_reducible refine Gd.bne (fun _ => ?_) (fun _ => ?_) | with_reducible refine Gd.not ?_ | refine Gd.t ?_ | refine Gd.f ?_ | with_reducible refine Gd.var (fun _ => ?_) (fun _ => ?_)) <;> first | (exfalso; omega) | skip) | with_reducible refine Sq.mk ?_ | ((with_reducible show Ld1 _ _ _); first | refine Ld1.h H ?_ | refine Ld1.rF ?_ | refine Ld1.r ?_) | ((with_reducible show Ld _ _ _ _); first | refine Ld.h H ?_ | refine Ld.r ?_) | ((with_reducible show Ix _ _ _ _ _); (first | refine Ix.h ?_ | refine Ix.ha ?_)) | (refine Al.hp H ?_; clear H; intro _ _ H _) | (refine St.h H ?_; clear H; intro _ H))
      all_goals first | (exfalso; omega) | skip
      (((conv => whnf); refine Cl.mk (format_c _ _ (by omega) (by omega) (hP _ H.e)) ?_); rintro _ _ ⟨rfl, hx⟩; replace H := H.ext hx; clear hx)
      repeat' ((conv => whnf); first | (((with_reducible show Gd _ _ _); first | with_reducible refine Gd.t ?_ | with_reducible refine Gd.f ?_ | with_reducible refine Gd.dec (fun _ => ?_) (fun _ => ?_) | with_reducible refine Gd.beq (fun _ => ?_) (fun _ => ?_) | with_reducible refine Gd.bne (fun _ => ?_) (fun _ => ?_) | with_reducible refine Gd.not ?_ | refine Gd.t ?_ | refine Gd.f ?_ | with_reducible refine Gd.var (fun _ => ?_) (fun _ => ?_)) <;> first | (exfalso; omega) | skip) | with_reducible refine Sq.mk ?_ | ((with_reducible show Ld1 _ _ _); first | refine Ld1.h H ?_ | refine Ld1.rF ?_ | refine Ld1.r ?_) | ((with_reducible show Ld _ _ _ _); first | refine Ld.h H ?_ | refine Ld.r ?_) | ((with_reducible show Ix _ _ _ _ _); (first | refine Ix.h ?_ | refine Ix.ha ?_)) | (refine Al.hp H ?_; clear H; intro _ _ H _) | (refine St.h H ?_; clear H; intro _ H))
      · rename_i hb
        rw [bs_eq, htk] at hb
        have h1 := hin.1 (of_decide_eq_true hb)
        repeat' ((conv => whnf); first | (((with_reducible show Gd _ _ _); first | with_reducible refine Gd.t ?_ | with_reducible refine Gd.f ?_ | with_reducible refine Gd.dec (fun _ => ?_) (fun _ => ?_) | with_reducible refine Gd.beq (fun _ => ?_) (fun _ => ?_) | with_reducible refine Gd.bne (fun _ => ?_) (fun _ => ?_) | with_reducible refine Gd.not ?_ | refine Gd.t ?_ | refine Gd.f ?_ | with_reducible refine Gd.var (fun _ => ?_) (fun _ => ?_)) <;> first | (exfalso; omega) | skip) | with_reducible refine Sq.mk ?_ | ((with_reducible show Ld1 _ _ _); first | refine Ld1.h H ?_ | refine Ld1.rF ?_ | refine Ld1.r ?_) | ((with_reducible show Ld _ _ _ _); first | refine Ld.h H ?_ | refine Ld.r ?_) | ((with_reducible show Ix _ _ _ _ _); (first | refine Ix.h ?_ | refine Ix.ha ?_)) | (refine Al.hp H ?_; clear H; intro _ _ H _) | (refine St.h H ?_; clear H; intro _ H))
        refine ⟨-(val (s.take (s.length + 1 - 1)) : Int), 0, rfl, .inl ⟨?_, rfl⟩, H.e⟩
        rw [hfin, htk, if_neg]
        rw [htk] at hvs
        intro e
        rcases e with e | e
        · omega
        · exact h1 e
      · rename_i hb
        rw [bs_eq, htk] at hb
        have h1 : s.head?.map UInt8.toNat = some 48 := Classical.byContradiction fun e => of_decide_eq_false hb (hin.2 e)
        repeat' ((conv => whnf); first | (((with_reducible show Gd _ _ _); first | with_reducible refine Gd.t ?_ | with_reducible refine Gd.f ?_ | with_reducible refine Gd.dec (fun _ => ?_) (fun _ => ?_) | with_reducible refine Gd.beq (fun _ => ?_) (fun _ => ?_) | with_reducible refine Gd.bne (fun _ => ?_) (fun _ => ?_) | with_reducible refine Gd.not ?_ | refine Gd.t ?_ | refine Gd.f ?_ | with_reducible refine Gd.var (fun _ => ?_) (fun _ => ?_)) <;> first | (exfalso; omega) | skip) | with_reducible refine Sq.mk ?_ | ((with_reducible show Ld1 _ _ _); first | refine Ld1.h H ?_ | refine Ld1.rF ?_ | refine Ld1.r ?_) | ((with_reducible show Ld _ _ _ _); first | refine Ld.h H ?_ | refine Ld.r ?_) | ((with_reducible show Ix _ _ _ _ _); (first | refine Ix.h ?_ | refine Ix.ha ?_)) | (refine Al.hp H ?_; clear H; intro _ _ H _) | (refine St.h H ?_; clear H; intro _ H))
        exact ⟨0, 4, rfl, .inr ⟨by rw [hfin, if_pos (.inr h1)], rfl, by decide⟩, H.e⟩
end Go.Proofs.YtapdmkgdiaechaaDoor
namespace Go.Sh
open Go.RowKit Go.ChangeShapes
section
variable {H : Type} {enc : TypeId × Value → H} {P : Program}
theorem sameAt_ext {w w' : World} (e : Ext w w') {p : MemPlace} (h : p.block < w.heap.size) : w.sameAt w' p := by
  cases p with
  | cell b off => exact Below.cell e h
  | map b => exact Below.block e b h
theorem trodAll_ext {w w' : World} (e : Ext w w') {base : Nat} {spare : Nat → Bool} {held : Bool} : ∀ {ts : List TypeId} {vs : List Value} {ds : List (DataW H)} {ps : List MemPlace},
    DataW.TrodAll enc P w base spare held ts vs ds ps → (∀ p ∈ ps, p.block < w.heap.size) → DataW.TrodAll enc P w' base spare held ts vs ds ps
  | [], [], [], _, h, _ => h
  | _ :: _, _ :: _, _ :: _, _, ⟨p, q, ⟨n, hn⟩, h2, he⟩, hlt =>
    ⟨p, q, ⟨n, DataW.trod_carry n _ _ _ hn fun x hx => sameAt_ext e (hlt x (by rw [he]; exact List.mem_append_left _ hx))⟩, trodAll_ext e h2 (fun x hx => hlt x (by rw [he]; exact List.mem_append_right _ hx)), he⟩
theorem keptBut_ext {w w' : World} (e : Ext w w') (may : MemPlace → Prop) : w.keptBut w' may := by
  refine ⟨Below.os e, Below.output e, fun i hi => ?_⟩
  rw [Below.block e i hi]
  cases w.heap[i]? with
  | none => rfl
  | some o => cases o <;> first | exact ⟨rfl, rfl, rfl, fun _ _ => rfl⟩ | exact .inr ⟨rfl, rfl⟩ | rfl
/-- what a law's row asks of a call that answers true and writes over nothing -/
theorem post_kept (K : Kids P (· < P.types.size)) (hz : ∀ t e, t < P.types.size → P.underlying t = some (.slice e) → 0 < P.cellsOf e) {f : Func} {s : ChangeSpec} {apart fresh handsOn : Bool} {W W' : World} {args : Array Value} {ds gs : List (DataW H)} {before : List MemPlace} {t : TypeId}
    (hW : DataW.Whole enc P f.params.toList s.vars apart W args.toList ds gs before) (hts : ∀ t ∈ f.params.toList, t < P.types.size) (hv : s.vars = []) (e : Ext W W')
    (hfn : s.fn H (ds ++ []) = { results := [.lit (.bool true)], args := ds }) (hr : f.resultTypes = #[t]) (ht : P.underlying t = some .bool) :
    s.post enc P f apart fresh handsOn false W args (.bool true) W' := by
  have hlt := hW.lt
  have hW0 := hW
  obtain ⟨p, q, h1, h2, rfl, _⟩ := hW0
  rw [hv] at h2
  obtain ⟨rfl, rfl⟩ := trodVars_none h2
  rw [List.append_nil] at hlt
  refine ⟨ds, [], p ++ [], [], p, [], hW, ?_, ?_, ?_, keptBut_ext e _, fun h => by cases h⟩
  · rw [hfn, hr]
    exact ⟨[], [], shut_bool ht true, rfl, rfl⟩
  · rw [hfn]
    refine DataW.TrodAll.respare K hz hts (trodAll_ext e h1 hlt) fun x hx => ?_
    simpa using hlt x hx
  · rw [hfn, hv]; rfl
theorem cell_lt {w : World} {a : Addr} {v : Value} (h : w.cell? a = some v) : a.block < w.heap.size := by
  unfold World.cell? at h
  split at h
  · rename_i h1
    exact (Array.getElem?_eq_some_iff.1 h1).1
  · simp at h
theorem exists_list {α : Type} {Q : Nat → α → Prop} : ∀ (n : Nat), (∀ i, i < n → ∃ a, Q i a) → ∃ l : List α, l.length = n ∧ ∀ (i : Nat) (a : α), l[i]? = some a → Q i a
  | 0, _ => ⟨[], rfl, fun i a h => by simp at h⟩
  | n + 1, h => by
    obtain ⟨l, h1, h2⟩ := exists_list (Q := Q) n fun i hi => h i (by omega)
    obtain ⟨a, ha⟩ := h n (by omega)
    refine ⟨l ++ [a], by simp [h1], fun i b hb => ?_⟩
    rcases Nat.lt_or_ge i l.length with hl | hl
    · rw [List.getElem?_append_left hl] at hb; exact h2 i b hb
    · have : i = l.length := by have := (List.getElem?_eq_some_iff.1 hb).1; simp at this; omega
      subst this
      simp at hb; subst hb
      rw [h1]; exact ha
variable {w : World} {sp : Nat → Bool} {held : Bool} {fuel : Nat} {t : TypeId} {cs : List Value} {x : DataW H × List MemPlace}
theorem read_int {k : IntKind} (ht : P.underlying t = some (.int k)) (h : DataW.trod enc P w 0 sp held fuel t cs = some x) : ∃ n, cs = [.int k n] ∧ (Lit.int k n).wf = true ∧ x.1 = .lit (.int k n) := by
  cases fuel with
  | zero => simp [DataW.trod] at h
  | succ n =>
    unfold DataW.trod at h
    rw [ht] at h
    simp only at h
    split at h <;> try (rename_i he; simp at he; done)
    all_goals first
      | (rename_i k1 k2 m he
         simp only [Option.some.injEq, TypeDesc.int.injEq] at he
         subst he
         split at h
         · rename_i hc
           obtain ⟨rfl, hw⟩ := hc
           simp at h; subst h
           exact ⟨m, rfl, hw, rfl⟩
         · simp at h)
      | simp at h
theorem read_slice {α : Type} {R : World → α → List Value → Prop} {Q : α → DataW H → Prop} {e : TypeId} {sz : Nat} (ht : P.underlying t = some (.slice e)) (hsz : P.cellsOf e = sz) (hpos : 0 < sz)
    (he : ∀ fuel cs y, DataW.trod enc P w 0 sp held fuel e cs = some y → ∃ a, cs.length = sz ∧ R w a cs ∧ Q a y.1) (h : DataW.trod enc P w 0 sp held fuel t cs = some x) :
    ∃ (A : Option Addr) (l : List α) (c : Nat), cs = [.slice A l.length c] ∧ l.length ≤ c ∧ c ≤ maxLen ∧ (A = none → c = 0) ∧ Rd R sz w w.heap.size A l ∧
      (l = [] ∨ ∃ es rest, x.1 = .slice es rest ∧ es.length = l.length ∧ ∀ (i : Nat) (a : α) (d : DataW H), l[i]? = some a → es[i]? = some d → Q a d) := by
  rcases DataW.trod_slice ht h with ⟨rfl, rfl⟩ | ⟨a, len, cap, elems, rest, n, _, rfl, rfl, _, hl, hm, hlen, hel, _⟩
  · exact ⟨none, [], 0, rfl, by simp, by simp, fun _ => rfl, Rd.nil, .inl rfl⟩
  · rw [hsz] at hel
    obtain ⟨l, h1, h2⟩ := exists_list (Q := fun i (b : α) => ∃ vs, vs.length = sz ∧ w.cells? 0 (a.add (i * sz)) sz = some vs ∧ R w b vs ∧ ∀ d, (elems.map (·.1))[i]? = some d → Q b d) len (fun i hi => by
      have hi' : i < elems.length := by omega
      have := hel i hi
      rw [List.getElem?_eq_getElem hi', Option.bind_eq_some_iff] at this
      obtain ⟨vs, hv, hy⟩ := this
      obtain ⟨b, hb1, hb2, hb3⟩ := he _ _ _ hy
      refine ⟨b, vs, hb1, hv, hb2, fun d hd => ?_⟩
      rw [List.getElem?_map, List.getElem?_eq_getElem hi'] at hd
      simp at hd; subst hd; exact hb3)
    have hcell : ∀ i b, l[i]? = some b → ∃ vs, vs.length = sz ∧ R w b vs ∧ ∀ j v, vs[j]? = some v → w.cell? (a.add (i * sz + j)) = some v := by
      intro i b hb
      obtain ⟨vs, g1, g2, g3, _⟩ := h2 i b hb
      refine ⟨vs, g1, g3, fun j v hv => ?_⟩
      unfold World.cells? at g2
      rw [if_pos (Nat.zero_le _)] at g2
      have hj : j < sz := by have := (List.getElem?_eq_some_iff.1 hv).1; omega
      have := Lib.mapM_at g2 j j (by simp [hj])
      obtain ⟨u, hu1, hu2⟩ := this
      rw [hv] at hu1; simp at hu1; subst hu1
      rw [← add_add]; exact hu2
    refine ⟨some a, l, cap, by rw [h1], by omega, hm, fun h => by simp at h, ⟨fun hn => ⟨by simp, ?_⟩, fun i b hb => hcell i b hb⟩, .inr ⟨elems.map (·.1), rest.map (·.1), rfl, by rw [List.length_map, hlen, h1], fun i b d hb hd => ?_⟩⟩
    · obtain ⟨b, hb⟩ : ∃ b, l[0]? = some b := ⟨l[0]'(List.length_pos_iff.2 hn), List.getElem?_eq_getElem _⟩
      obtain ⟨vs, g1, _, g3⟩ := hcell 0 b hb
      have := g3 0 vs[0] (List.getElem?_eq_getElem (by omega))
      simp only [gA]
      rw [← block_add a (0 * sz + 0)]
      exact cell_lt this
    · obtain ⟨_, _, _, _, g⟩ := h2 i b hb
      exact g d hd
end
end Go.Sh
namespace Go.Proofs.YtapdmkgdiaechaaDoor
open Go Go.Sh Go.Tx
set_option linter.unusedVariables false
set_option linter.unusedSimpArgs false
set_option linter.unusedSectionVars false
attribute [local irreducible] Blk Ext RdS
theorem u_string : Tryd.prog.underlying 9 = some .string := (T.ok.1.get (t := 9) (i := T.t9) rfl).1
theorem c_string : Tryd.prog.cellsOf 9 = 1 := by kernel_rfl
abbrev sE : Bs → List Value := fun b => [Value.string (bs b)]
def strD {H : Type} (l : List Bs) : List (DataW H) := l.map fun b => .lit (.string b)
theorem str_cell {H : Type} {enc : TypeId × Value → H} {w : World} {sp : Nat → Bool} {held : Bool} {fuel : Nat} {cs : List Value} {x : DataW H × List MemPlace} {b : Bs} (h : DataW.trod enc Tryd.prog w 0 sp held fuel 9 cs = some x) (hx : x.1 = .lit (.string b)) : cs = [.string (bs b)] := by
  obtain ⟨s, rfl, rfl, _⟩ := DataW.trod_string u_string h
  simp only [DataW.lit.injEq, Lit.string.injEq] at hx
  rw [← hx, ← bs_of]
theorem tab_str {name : String} {g t n : Nat} {l : List Bs} {rest : List (String × DataW Unit)} {w : World} (hg : Tryd.prog.globalNamed name = some g) (hty : (Tryd.prog.globals[g]?).map (·.type) = some t)
    (hu : Tryd.prog.underlying t = some (.array n 9)) (hn : l.length = n) (hct : Tryd.prog.cellsOf t = n) (h : laidMet Tryd.prog ((name, .agg (strD l)) :: rest) w) : RdS sE 1 w (some ⟨g, 0, none⟩) l := by
  obtain ⟨ps, ⟨g', t', cs, fuel, p, q, hg', ht', hvar, hd, _, _⟩, _⟩ := h
  obtain rfl := Option.some.inj (hg.symm.trans hg')
  obtain rfl := Option.some.inj (hty.symm.trans ht')
  obtain ⟨xs, m, _, hx, hl, hxs, hf⟩ := DataW.trod_array hu hd
  rw [hct] at hl
  rw [c_string] at hf
  have hxs2 : xs.map (·.1) = strD l := by
    have := congrArg Prod.fst hx
    simp only [DataW.agg.injEq] at this
    exact this.symm
  have hblk : ∃ tt fr cs0, w.heap[g]? = some (.cells cs0 tt fr) ∧ cs0.toList = cs.toList := by
    simp only [World.var?, hg, Option.bind_some] at hvar
    split at hvar
    · rename_i c1 t1 f1 hh
      simp at hvar; subst hvar
      exact ⟨t1, f1, _, hh, rfl⟩
    · simp at hvar
  obtain ⟨tt, fr, cs0, hb, hcs0⟩ := hblk
  unfold RdS
  refine ⟨fun _ => ⟨by simp, (Array.getElem?_eq_some_iff.1 hb).1⟩, fun i b hb2 => ⟨sE b, rfl, rfl, fun j v hv => ?_⟩⟩
  have hi : i < n := by rw [← hn]; exact (List.getElem?_eq_some_iff.1 hb2).1
  have h3 := hf i hi
  rw [List.getElem?_eq_getElem (by omega)] at h3
  have h4 : (xs.map (·.1))[i]? = some (.lit (.string b)) := by rw [hxs2, strD, List.getElem?_map, hb2]; rfl
  rw [List.getElem?_map, List.getElem?_eq_getElem (by omega)] at h4
  have h5 := str_cell h3 (Option.some.inj h4)
  have hj : j = 0 := by
    have := (List.getElem?_eq_some_iff.1 hv).1
    simp [sE] at this; omega
  subst hj
  simp only [gA]
  rw [add_lit]
  simp only [World.cell?, hb]
  rw [Nat.zero_add, ← Array.getElem?_toList]
  have h6 := congrArg (·[0]?) h5
  simp only [List.getElem?_cons_zero] at h6
  rw [List.getElem?_take_of_lt (by omega), List.getElem?_drop] at h6
  rw [hcs0]
  rw [← hv]
  exact h6
theorem u_strs : Tryd.prog.underlying 22 = some (.slice 9) := (T.ok.1.get (t := 22) (i := T.t22) rfl).1
theorem c_strs : Tryd.prog.cellsOf 22 = 1 := by kernel_rfl
theorem strs_cell {H : Type} {enc : TypeId × Value → H} {w : World} {sp : Nat → Bool} {held : Bool} {fuel : Nat} {cs : List Value} {x : DataW H × List MemPlace} {l : List Bs} {r : List (DataW H)}
    (h : DataW.trod enc Tryd.prog w 0 sp held fuel 22 cs = some x) (hx : x.1 = .slice (strD l) r) : ∃ (A : Option Addr) (c : Nat), cs = [.slice A l.length c] ∧ RdS sE 1 w A l := by
  rcases DataW.trod_slice u_strs h with ⟨rfl, rfl⟩ | ⟨a, len, cap, elems, rest, n, _, rfl, rfl, _, hl, hm, hlen, hel, _⟩
  · simp at hx
  simp only [DataW.slice.injEq] at hx
  have hll : l.length = len := by
    have := congrArg List.length hx.1
    simp only [List.length_map, strD] at this
    omega
  refine ⟨some a, cap, by rw [hll], ?_⟩
  rw [c_string] at hel
  have hcell : ∀ i b, l[i]? = some b → w.cell? (a.add (i * 1)) = some (.string (bs b)) := by
    intro i b hb
    have hi : i < len := by rw [← hll]; exact (List.getElem?_eq_some_iff.1 hb).1
    have h1 := hel i hi
    rw [List.getElem?_eq_getElem (by omega), Option.bind_eq_some_iff] at h1
    obtain ⟨vs, hv, hy⟩ := h1
    have h4 : (elems.map (·.1))[i]? = some (.lit (.string b)) := by rw [hx.1, strD, List.getElem?_map, hb]; rfl
    rw [List.getElem?_map, List.getElem?_eq_getElem (by omega)] at h4
    have h5 := str_cell hy (Option.some.inj h4)
    subst h5
    unfold World.cells? at hv
    rw [if_pos (Nat.zero_le _)] at hv
    obtain ⟨u, hu1, hu2⟩ := Lib.mapM_at hv 0 0 (by simp)
    simp at hu1; subst hu1
    exact hu2
  unfold RdS
  refine ⟨fun hn => ⟨by simp, ?_⟩, fun i b hb => ⟨sE b, rfl, rfl, fun j v hv => ?_⟩⟩
  · obtain ⟨b, hb⟩ : ∃ b, l[0]? = some b := ⟨l[0]'(List.length_pos_iff.2 hn), List.getElem?_eq_getElem _⟩
    have := hcell 0 b hb
    simp only [gA]
    rw [← block_add a (0 * 1)]
    exact cell_lt this
  · have hj : j = 0 := by
      have := (List.getElem?_eq_some_iff.1 hv).1
      simp [sE] at this; omega
    subst hj
    simp only [gA, Nat.add_zero]
    rw [hcell i b hb]
    exact hv
theorem tab_lvl {name : String} {g t n : Nat} {ls : List (List Bs)} {rest : List (String × DataW Unit)} {w : World} (hg : Tryd.prog.globalNamed name = some g) (hty : (Tryd.prog.globals[g]?).map (·.type) = some t)
    (hu : Tryd.prog.underlying t = some (.array n 22)) (hn : ls.length = n) (hct : Tryd.prog.cellsOf t = n) (h : laidMet Tryd.prog ((name, .agg (ls.map fun l => .slice (strD l) [])) :: rest) w) :
    ∃ As : List (Option Addr × Nat), As.length = n ∧ RdS (fun x : Option Addr × Nat × Nat => [Value.slice x.1 x.2.1 x.2.2]) 1 w (some ⟨g, 0, none⟩) ((As.zip ls).map fun x => (x.1.1, x.2.length, x.1.2)) ∧ ∀ x ∈ As.zip ls, RdS sE 1 w x.1.1 x.2 := by
  obtain ⟨ps, ⟨g', t', cs, fuel, p, q, hg', ht', hvar, hd, _, _⟩, _⟩ := h
  obtain rfl := Option.some.inj (hg.symm.trans hg')
  obtain rfl := Option.some.inj (hty.symm.trans ht')
  obtain ⟨xs, m, _, hx, hl, hxs, hf⟩ := DataW.trod_array hu hd
  rw [hct] at hl
  rw [c_strs] at hf
  have hxs2 : xs.map (·.1) = ls.map fun l => .slice (strD l) [] := by
    have := congrArg Prod.fst hx
    simp only [DataW.agg.injEq] at this
    exact this.symm
  have hblk : ∃ tt fr cs0, w.heap[g]? = some (.cells cs0 tt fr) ∧ cs0.toList = cs.toList := by
    simp only [World.var?, hg, Option.bind_some] at hvar
    split at hvar
    · rename_i c1 t1 f1 hh
      simp at hvar; subst hvar
      exact ⟨t1, f1, _, hh, rfl⟩
    · simp at hvar
  obtain ⟨tt, fr, cs0, hb, hcs0⟩ := hblk
  obtain ⟨As, hA1, hA2⟩ := exists_list (α := Option Addr × Nat) (Q := fun i A => ∀ l, ls[i]? = some l → (cs.toList.drop (i * 1)).take 1 = [.slice A.1 l.length A.2] ∧ RdS sE 1 w A.1 l) n (fun i hi => by
    have h3 := hf i hi
    rw [List.getElem?_eq_getElem (by omega)] at h3
    obtain ⟨l, hli⟩ : ∃ l, ls[i]? = some l := ⟨ls[i]'(by omega), List.getElem?_eq_getElem _⟩
    have h4 : (xs.map (·.1))[i]? = some (.slice (strD l) []) := by rw [hxs2, List.getElem?_map, hli]; rfl
    rw [List.getElem?_map, List.getElem?_eq_getElem (by omega)] at h4
    obtain ⟨A, c, h5, h6⟩ := strs_cell h3 (Option.some.inj h4)
    exact ⟨(A, c), fun l' hl' => by rw [hli] at hl'; obtain rfl := Option.some.inj hl'; exact ⟨h5, h6⟩⟩)
  refine ⟨As, hA1, ?_, fun x hx => ?_⟩
  · unfold RdS
    refine ⟨fun _ => ⟨by simp, (Array.getElem?_eq_some_iff.1 hb).1⟩, fun i y hy => ⟨_, rfl, rfl, fun j v hv => ?_⟩⟩
    rw [List.getElem?_map] at hy
    obtain ⟨z, hz1, rfl⟩ := Option.map_eq_some_iff.1 hy
    obtain ⟨h7, h8⟩ := List.getElem?_zip_eq_some.1 hz1
    obtain ⟨h9, _⟩ := hA2 i z.1 h7 z.2 h8
    have hj : j = 0 := by
      have := (List.getElem?_eq_some_iff.1 hv).1
      simp at this; omega
    subst hj
    simp only [gA]
    rw [add_lit]
    simp only [World.cell?, hb]
    rw [Nat.zero_add, ← Array.getElem?_toList]
    have h6 := congrArg (·[0]?) h9
    simp only [List.getElem?_cons_zero] at h6
    rw [List.getElem?_take_of_lt (by omega), List.getElem?_drop] at h6
    rw [hcs0]
    rw [← hv]
    exact h6
  · obtain ⟨i, hi⟩ := List.getElem?_of_mem hx
    obtain ⟨h7, h8⟩ := List.getElem?_zip_eq_some.1 hi
    exact (hA2 i x.1 h7 x.2 h8).2
theorem Pow.ext {w w' : World} (h : Pow w) (e : Ext w w') (hb : ∀ g, Tryd.prog.globalNamed "internal/strconv.uint64pow10" = some g → g < w.heap.size) : Pow w' := by
  unfold Pow Go.Lib.TabIs World.var? at h ⊢
  cases hg : Tryd.prog.globalNamed "internal/strconv.uint64pow10" with
  | none => rw [hg] at h; exact h
  | some g =>
    rw [hg] at h
    simp only [Option.bind_some] at h ⊢
    have e2 := e
    unfold Ext at e2
    rw [Go.RowKit.Below.block e2 g (hb g hg)]
    exact h
theorem Pow.lt {w : World} (h : Pow w) (g : Nat) (hg : Tryd.prog.globalNamed "internal/strconv.uint64pow10" = some g) : g < w.heap.size := by
  unfold Pow Go.Lib.TabIs World.var? at h
  rw [hg] at h
  simp only [Option.bind_some] at h
  rcases Nat.lt_or_ge g w.heap.size with h1 | h1
  · exact h1
  · rw [Array.getElem?_eq_none h1] at h
    simp at h
theorem rg_of {w : World} (hk : RdS sE 1 w (some ⟨3, 0, none⟩) keywords) (hs : RdS sE 1 w (some ⟨1, 0, none⟩) signs) (hn : RdS sE 1 w (some ⟨7, 0, none⟩) opNames)
    (hl : ∃ As : List (Option Addr × Nat), As.length = 8 ∧ RdS (fun x : Option Addr × Nat × Nat => [Value.slice x.1 x.2.1 x.2.2]) 1 w (some ⟨6, 0, none⟩) ((As.zip levels).map fun x => (x.1.1, x.2.length, x.1.2)) ∧ ∀ x ∈ As.zip levels, RdS sE 1 w x.1.1 x.2)
    (hP : Pow w) (hE : EG w) : Rg w :=
  ⟨⟨hk, hs, hn, hl, fun s w' e h1 h2 h3 => parse_c s w' h1 h2 h3 fun w'' e2 => hP.ext (Ext.trans e e2) hP.lt⟩, hE⟩
theorem eg_of {w : World} (h : handlesMet Tryd.prog [("errors.errorType", Rows.laid_errors_errorType)] w) : EG w := by
  obtain ⟨name, u, ty, e1, e2, e3, e4, e5⟩ := h _ (List.mem_singleton.2 rfl)
  have en : name = [101, 114, 114, 111, 114] := (Option.some.inj e1).symm
  subst en
  have hrt : (Tryd.prog.cutTypes.find? (·.1 == "internal/reflectlite.rtype")).map (·.2) = some 92 := by kernel_rfl
  obtain rfl := Option.some.inj (hrt.symm.trans e2)
  have hone : ((List.range Tryd.prog.types.size).filter fun t => Tryd.prog.rowNamed t [101, 114, 114, 111, 114]) = [52] := by kernel_rfl
  have hm : ty ∈ (List.range Tryd.prog.types.size).filter fun t => Tryd.prog.rowNamed t [101, 114, 114, 111, 114] := List.mem_filter.2 ⟨List.mem_range.2 e3, e4⟩
  rw [hone] at hm
  obtain rfl := List.mem_singleton.1 hm
  have hh : typeHandle Tryd.prog 52 = .pointer (some ⟨8, 52, none⟩) := by kernel_rfl
  rw [hh] at e5
  have het : Tryd.prog.globalNamed "errors.errorType" = some 0 := by kernel_rfl
  have := World.var?_cell het e5 0
  unfold EG
  simpa using this
end Go.Proofs.YtapdmkgdiaechaaDoor
namespace Go.Tx
set_option linter.unusedVariables false
set_option linter.unusedSimpArgs false
set_option linter.unusedSectionVars false
/-! ### words -/
def W (l : Bs) (p : Nat) : List Tk := words l (l.length + 1 - p) p
theorem W_step {l : Bs} {p q : Nat} {t : Tk} (hp : p ≤ l.length) (h : readT l p = (t, q)) (he : t.err = 0) (hk : t.kind ≠ k_end) : W l p = t :: W l q := by
  obtain ⟨r, h1, h2⟩ := words_at l hp
  rw [h] at h1 h2
  unfold W
  rw [h1, h2 he hk]
theorem W_end {l : Bs} {p q : Nat} {t : Tk} (hp : p ≤ l.length) (h : readT l p = (t, q)) (hk : t.kind = k_end) : W l p = [t] := by
  unfold W
  rw [show l.length + 1 - p = (l.length - p) + 1 by omega, words_succ, h, if_pos (.inr hk)]
theorem drop_at {l w r : Bs} {p : Nat} (h : l.drop p = w ++ r) : l.drop (p + w.length) = r := by
  rw [← List.drop_drop, h, List.drop_left]
theorem drop_le {l w : Bs} {p : Nat} (hw : w ≠ []) (h : l.drop p = w) : p + w.length = l.length := by
  have h2 := congrArg List.length h
  rw [List.length_drop] at h2
  have : 0 < w.length := List.length_pos_iff.2 hw
  omega
theorem read_blank {l r : Bs} {p : Nat} (h : l.drop p = 32 :: r) : readT l p = readT l (p + 1) := by
  have h2 : l.drop (p + 1) = r := drop_at (w := [32]) h
  have h3 : skp false (l.drop p) p = skp false (l.drop (p + 1)) (p + 1) := by
    rw [h, h2, skp, if_pos (by decide)]
  unfold readT
  rw [h3]
theorem skp_here {c : UInt8} {r : Bs} {p : Nat} (hb : blank c = false) (h47 : c.toNat ≠ 47) : skp false (c :: r) p = p := by
  rw [skp, hb, if_neg (by simp), if_neg (fun h => h47 h.1)]
theorem span_ds {ds : Bs} (hd : Digs ds) : ∀ {r : Bs}, (∀ c r', r = c :: r' → digit c = false) → spanN digit (ds ++ r) = ds.length := by
  induction ds with
  | nil =>
    intro r h
    cases r with
    | nil => rfl
    | cons c r' => simp only [List.nil_append, spanN, h c r' rfl]; rfl
  | cons c ds ih =>
    intro r h
    simp only [List.cons_append, spanN, hd c (by simp), if_true, List.length_cons]
    rw [ih (fun x hx => hd x (by simp [hx])) h]
theorem dig_not {c : UInt8} (h : digit c = true) : letter c = false ∧ blank c = false ∧ c.toNat ≠ 47 := by
  have := dig_range h
  refine ⟨?_, ?_, by omega⟩
  · simp only [letter, decide_eq_false_iff_not]; omega
  · simp only [blank, decide_eq_false_iff_not]; omega
theorem read_digs {l ds r : Bs} {p : Nat} (h : l.drop p = ds ++ r) (hd : Digs ds) (hne : ds ≠ []) (hr : ∀ c r', r = c :: r' → digit c = false) : readT l p = (number ds p, p + ds.length) := by
  cases ds with
  | nil => exact absurd rfl hne
  | cons c ds =>
    obtain ⟨h1, h2, h3⟩ := dig_not (hd c (by simp))
    have hs := span_ds hd hr
    unfold readT
    rw [h, List.cons_append, skp_here h2 h3, h, List.cons_append]
    simp only [h1, hd c (by simp), if_true]
    rw [if_neg (by simp)]
    rw [List.cons_append] at hs
    rw [hs]
    have : List.take (c :: ds).length (c :: (ds ++ r)) = c :: ds := by
      rw [← List.cons_append, List.take_left]
    rw [this]
theorem read_sign {l r : Bs} {p : Nat} {c : UInt8} (h : l.drop p = c :: r) (h1 : letter c = false) (h2 : digit c = false) (h3 : blank c = false) (h4 : c.toNat ≠ 47) (hs : signAt (c :: r) = some [c]) : readT l p = (⟨[c], [c], p, 0, 0⟩, p + 1) := by
  unfold readT
  rw [h, skp_here h3 h4, h]
  simp only [h1, h2, hs]
  rfl
theorem read_end {l : Bs} {p : Nat} (h : l.drop p = []) : readT l p = (⟨k_end, [], l.length, 0, 0⟩, l.length) := by
  unfold readT
  rw [h, skp, h]
/-! ### numbers -/
theorem dec_len : ∀ (k m : Nat), m < 10 ^ (k + 1) → (Go.Lib.decDigits m).length ≤ k + 1
  | 0, m, h => by
    rw [Go.Lib.decDigits, dif_pos (by omega)]; simp
  | k + 1, m, h => by
    rw [Go.Lib.decDigits]
    split
    · simp
    · have := dec_len k (m / 10) (by rw [Nat.pow_succ] at h; omega)
      rw [List.length_append, List.length_singleton]; omega
theorem neg_dec {m : Nat} (h : m ≤ 9223372036854775808) : negOf (Go.Lib.decDigits m) = some (-(m : Int)) := by
  unfold negOf
  by_cases h0 : m = 0
  · subst h0
    rw [if_pos (by rw [Go.Lib.decDigits, dif_pos (by decide)]; rfl)]; rfl
  · have h1 := dec_head m (by omega)
    rw [if_neg (fun e => h1 (by rw [e]; rfl)), if_neg, val_dec]
    rintro (e | e | e)
    · have := dec_len 18 m (by omega)
      omega
    · rw [val_dec] at e; omega
    · exact h1 e
def numT (m p : Nat) : Tk := ⟨k_number, Go.Lib.decDigits m, p, -(m : Int), 0⟩
theorem number_dec {m p : Nat} (h : m ≤ 9223372036854775808) : number (Go.Lib.decDigits m) p = numT m p := by
  unfold number
  rw [neg_dec h]; rfl
/-! ### reading -/
theorem step_ok {a b : Tk} {r : List Tk} {m : Bool} (hb : b.err = 0) (hn : ¬ (b.kind = k_number ∧ b.n = -9223372036854775808 ∧ m = false)) : stepP m (a :: b :: r) = .ok () (b :: r) := by
  simp only [stepP]
  rw [if_neg (fun e => e hb), if_neg hn]
theorem take_ok {k : Bs} {a b : Tk} {r : List Tk} (hk : a.kind = k) (hb : b.err = 0) (hn : ¬ (b.kind = k_number ∧ b.n = -9223372036854775808 ∧ false = false)) : takeP k (a :: b :: r) = .ok a (b :: r) := by
  unfold takeP
  rw [if_neg (fun e => e hk), step_ok hb hn]; rfl
theorem take_c {k k2 t t2 : Bs} {p p2 : Nat} {r : List Tk} (h : k2 ≠ k_number) : takeP k (⟨k, t, p, 0, 0⟩ :: ⟨k2, t2, p2, 0, 0⟩ :: r) = .ok ⟨k, t, p, 0, 0⟩ (⟨k2, t2, p2, 0, 0⟩ :: r) := take_ok rfl rfl fun e => h e.1
theorem un_s (n d : Nat) (ts : List Tk) : (pf (n + 1)).unary d ts = unaryP (pf n) d ts := rfl
theorem pr_s (n d : Nat) (ts : List Tk) : (pf (n + 1)).primary d ts = primaryP (pf n) d ts := rfl
theorem bl_s (n d : Nat) (ts : List Tk) : (pf (n + 1)).block d ts = blockP (pf n) d ts := rfl
theorem bind_ok {α β : Type} {a : α} {ts : List Tk} {k : α → List Tk → Res β} : (Res.ok a ts).bind k = k a ts := rfl
def NoSign (k : Bs) : Prop := ∀ lv, standsB lv k = false
theorem no_semi : NoSign s_semi := fun lv => by
  match lv with
  | 0 | 1 | 2 | 3 | 4 | 5 | 6 | 7 => rfl
  | n + 8 => rfl
theorem no_rp : NoSign s_rp := fun lv => by
  match lv with
  | 0 | 1 | 2 | 3 | 4 | 5 | 6 | 7 => rfl
  | n + 8 => rfl
theorem expr_up {f d : Nat} {ts ts' : List Tk} {e : Ex} (h : (pf f).unary d ts = .ok e ts') (hs : NoSign (curK ts')) : ∀ k, k ≤ 8 → (pf (f + 1 + k)).expr (8 - k) d ts = .ok e ts'
  | 0, _ => by
    show exprP (pf f) 8 d ts = _
    unfold exprP
    rw [if_pos rfl, h]
  | k + 1, hk => by
    show exprP (pf (f + 1 + k)) (8 - (k + 1)) d ts = _
    unfold exprP
    rw [if_neg (by omega), show 8 - (k + 1) + 1 = 8 - k by omega, expr_up h hs k (by omega), bind_ok]
    unfold loopE
    rw [hs, if_neg (by simp)]
theorem expr0 {f d : Nat} {ts ts' : List Tk} {e : Ex} (h : (pf f).unary d ts = .ok e ts') (hs : NoSign (curK ts')) : (pf (f + 9)).expr 0 d ts = .ok e ts' := expr_up h hs 8 (Nat.le_refl _)
/-- a number alone -/
theorem un_num {h d m p : Nat} {b : Tk} {r : List Tk} (hm : m ≤ 9223372036854775807) (hb : b.err = 0) (hk : b.kind ≠ k_number) : (pf (h + 2)).unary d (numT m p :: b :: r) = .ok (.mk 0 0 (m : Int) [] [] []) (b :: r) := by
  rw [show h + 2 = (h + 1) + 1 from rfl, un_s]
  unfold unaryP
  rw [if_pos (show curK (numT m p :: b :: r) ≠ s_minus ∧ curK (numT m p :: b :: r) ≠ s_bang from ⟨by show k_number ≠ s_minus; decide, by show k_number ≠ s_bang; decide⟩)]
  rw [pr_s]
  unfold primaryP
  rw [if_pos (show curK (numT m p :: b :: r) = k_number from rfl), step_ok hb (fun e => hk e.1), bind_ok]
  have : negW (curT (numT m p :: b :: r)).n = (m : Int) := by
    show negW (-(m : Int)) = _
    unfold negW
    rw [if_neg (by omega)]; omega
  rw [this]
theorem un_neg {h d m p q : Nat} {b : Tk} {r : List Tk} (hm : m ≤ 9223372036854775808) (hd : d + 1 ≤ 40) (hb : b.err = 0) (hk : b.kind ≠ k_number) : (pf (h + 2)).unary d (⟨s_minus, s_minus, q, 0, 0⟩ :: numT m p :: b :: r) = .ok (.mk 0 0 (-(m : Int)) [] [] []) (b :: r) := by
  rw [show h + 2 = (h + 1) + 1 from rfl, un_s]
  unfold unaryP
  rw [if_neg (fun e => e.1 rfl)]
  unfold deepP
  rw [if_neg (by omega), bind_ok, step_ok rfl (fun e => by simp [curK] at e), bind_ok]
  rw [if_pos (show curK (⟨s_minus, s_minus, q, 0, 0⟩ :: numT m p :: b :: r) = s_minus ∧ curK (numT m p :: b :: r) = k_number from ⟨rfl, rfl⟩), step_ok hb (fun e => hk e.1), bind_ok]
  rfl
theorem un_par {g d q1 q2 q3 : Nat} {x b : Tk} {xs r : List Tk} {e : Ex} (hd : d + 2 ≤ 40) (hx : x.err = 0) (hn : ¬ (x.kind = k_number ∧ x.n = -9223372036854775808)) (hb : b.err = 0) (hk : b.kind ≠ k_number)
    (h : (pf g).expr 0 (d + 2) (x :: xs) = .ok e (⟨s_rp, s_rp, q3, 0, 0⟩ :: b :: r)) :
    (pf (g + 3)).unary d (⟨s_minus, s_minus, q1, 0, 0⟩ :: ⟨s_lp, s_lp, q2, 0, 0⟩ :: x :: xs) = .ok (.mk 2 0 0 [] [] [e]) (b :: r) := by
  rw [show g + 3 = (g + 2) + 1 from rfl, un_s]
  unfold unaryP
  rw [if_neg (fun e => e.1 rfl)]
  unfold deepP
  rw [if_neg (by omega), bind_ok, step_ok rfl (fun e => absurd e.1 (by show s_lp ≠ k_number; decide)), bind_ok]
  rw [if_neg (fun e => absurd e.2 (by show s_lp ≠ k_number; decide))]
  have h2 : (pf (g + 2)).unary (d + 1) (⟨s_lp, s_lp, q2, 0, 0⟩ :: x :: xs) = .ok e (b :: r) := by
    rw [show g + 2 = (g + 1) + 1 from rfl, un_s]
    unfold unaryP
    rw [if_pos (show curK (⟨s_lp, s_lp, q2, 0, 0⟩ :: x :: xs) ≠ s_minus ∧ curK (⟨s_lp, s_lp, q2, 0, 0⟩ :: x :: xs) ≠ s_bang from ⟨by show s_lp ≠ s_minus; decide, by show s_lp ≠ s_bang; decide⟩)]
    rw [pr_s]
    unfold primaryP
    rw [if_neg (show ¬ curK (⟨s_lp, s_lp, q2, 0, 0⟩ :: x :: xs) = k_number from by show ¬ s_lp = k_number; decide), if_neg (show ¬ curK (⟨s_lp, s_lp, q2, 0, 0⟩ :: x :: xs) = k_name from by show ¬ s_lp = k_name; decide), if_pos (show curK (⟨s_lp, s_lp, q2, 0, 0⟩ :: x :: xs) = s_lp from rfl)]
    unfold deepP
    rw [if_neg (by omega), bind_ok, step_ok hx (fun e => hn ⟨e.1, e.2.1⟩), bind_ok, h, bind_ok, take_ok (k := s_rp) (a := ⟨s_rp, s_rp, q3, 0, 0⟩) rfl hb (fun e => hk e.1), bind_ok]
  rw [h2, bind_ok]
  rfl
/-- the little function around an expression -/
theorem shell {M a0 a1 a2 a3 a4 a5 q1 q2 q3 : Nat} {x : Tk} {xs : List Tk} {e : Ex} {nm : Bs} (hx : x.err = 0) (hn : ¬ (x.kind = k_number ∧ x.n = -9223372036854775808))
    (h : (pf M).expr 0 1 (x :: xs) = .ok e (⟨s_semi, s_semi, q1, 0, 0⟩ :: ⟨s_rb, s_rb, q2, 0, 0⟩ :: ⟨k_end, [], q3, 0, 0⟩ :: [])) :
    functionP (pf (M + 1)) (⟨k_fn, k_fn, a0, 0, 0⟩ :: ⟨k_name, nm, a1, 0, 0⟩ :: ⟨s_lp, s_lp, a2, 0, 0⟩ :: ⟨s_rp, s_rp, a3, 0, 0⟩ :: ⟨s_lb, s_lb, a4, 0, 0⟩ :: ⟨k_return, k_return, a5, 0, 0⟩ :: x :: xs)
      = .ok ⟨nm, [], [.mk 7 [] e [] []]⟩ [⟨k_end, [], q3, 0, 0⟩] := by
  have hst : stmtP (pf M) 1 (⟨k_return, k_return, a5, 0, 0⟩ :: x :: xs) = .ok (.mk 7 [] e [] []) [⟨s_rb, s_rb, q2, 0, 0⟩, ⟨k_end, [], q3, 0, 0⟩] := by
    unfold stmtP
    rw [if_pos (show beginsB (curK (⟨k_return, k_return, a5, 0, 0⟩ :: x :: xs)) = true from rfl)]
    unfold deepP
    rw [if_neg (by decide), bind_ok, if_neg (show ¬ curK (⟨k_return, k_return, a5, 0, 0⟩ :: x :: xs) = k_if from by show ¬ k_return = k_if; decide), if_neg (show ¬ curK (⟨k_return, k_return, a5, 0, 0⟩ :: x :: xs) = k_while from by show ¬ k_return = k_while; decide)]
    have hp : plainP (pf M) 1 (⟨k_return, k_return, a5, 0, 0⟩ :: x :: xs) = .ok (.mk 7 [] e [] []) [⟨s_semi, s_semi, q1, 0, 0⟩, ⟨s_rb, s_rb, q2, 0, 0⟩, ⟨k_end, [], q3, 0, 0⟩] := by
      unfold plainP
      rw [step_ok hx (fun e => hn ⟨e.1, e.2.1⟩), bind_ok]
      rw [if_neg (show ¬ curK (⟨k_return, k_return, a5, 0, 0⟩ :: x :: xs) = k_sync from by show ¬ k_return = k_sync; decide), if_neg (show ¬ curK (⟨k_return, k_return, a5, 0, 0⟩ :: x :: xs) = k_break from by show ¬ k_return = k_break; decide), if_neg (show ¬ curK (⟨k_return, k_return, a5, 0, 0⟩ :: x :: xs) = k_continue from by show ¬ k_return = k_continue; decide), if_neg (show ¬ curK (⟨k_return, k_return, a5, 0, 0⟩ :: x :: xs) = k_do from by show ¬ k_return = k_do; decide), if_pos (show curK (⟨k_return, k_return, a5, 0, 0⟩ :: x :: xs) = k_return from rfl)]
      rw [h, bind_ok]
    rw [hp, bind_ok, take_c (k := s_semi) (k2 := s_rb) (by decide), bind_ok]
  have hbl : (pf (M + 1)).block 1 (⟨s_lb, s_lb, a4, 0, 0⟩ :: ⟨k_return, k_return, a5, 0, 0⟩ :: x :: xs) = .ok [.mk 7 [] e [] []] [⟨k_end, [], q3, 0, 0⟩] := by
    rw [bl_s]
    unfold blockP
    rw [take_c (k := s_lb) (k2 := k_return) (by decide), bind_ok]
    have hlp : loopB (pf M) 1 ((⟨k_return, k_return, a5, 0, 0⟩ :: x :: xs).length + 1) [] (⟨k_return, k_return, a5, 0, 0⟩ :: x :: xs) = .ok [.mk 7 [] e [] []] [⟨s_rb, s_rb, q2, 0, 0⟩, ⟨k_end, [], q3, 0, 0⟩] := by
      rw [List.length_cons]
      unfold loopB
      rw [if_neg (show ¬ curK (⟨k_return, k_return, a5, 0, 0⟩ :: x :: xs) = s_rb from by show ¬ k_return = s_rb; decide), hst, bind_ok]
      unfold loopB
      rw [if_pos (show curK [⟨s_rb, s_rb, q2, 0, 0⟩, ⟨k_end, [], q3, 0, 0⟩] = s_rb from rfl)]
      rfl
    rw [hlp, bind_ok, take_c (k := s_rb) (k2 := k_end) (by decide), bind_ok]
  unfold functionP
  rw [take_c (k := k_fn) (k2 := k_name) (by decide), bind_ok, take_c (k := k_name) (k2 := s_lp) (by decide), bind_ok, take_c (k := s_lp) (k2 := s_rp) (by decide), bind_ok]
  unfold loopN
  rw [if_pos (show curK (⟨s_rp, s_rp, a3, 0, 0⟩ :: ⟨s_lb, s_lb, a4, 0, 0⟩ :: ⟨k_return, k_return, a5, 0, 0⟩ :: x :: xs) = s_rp from rfl), bind_ok, take_c (k := s_rp) (k2 := s_lb) (by decide), bind_ok, hbl, bind_ok]
def preR : Bs := [102, 110, 32, 102, 40, 41, 32, 123, 32, 114, 101, 116, 117, 114, 110, 32]
def postR : Bs := [59, 32, 125]
def sgn (c : UInt8) (p : Nat) : Tk := ⟨[c], [c], p, 0, 0⟩
theorem W_sign {l r : Bs} {p : Nat} {c : UInt8} (h : l.drop p = c :: r) (h1 : letter c = false) (h2 : digit c = false) (h3 : blank c = false) (h4 : c.toNat ≠ 47) (hs : signAt (c :: r) = some [c]) : W l p = sgn c p :: W l (p + 1) := by
  have hp := drop_le (w := c :: r) (by simp) h
  exact W_step (by omega) (read_sign h h1 h2 h3 h4 hs) rfl (by show ([c] : Bs) ≠ k_end; simp [k_end])
theorem W_num {l r : Bs} {p m : Nat} (h : l.drop p = Go.Lib.decDigits m ++ r) (hm : m ≤ 9223372036854775808) (hr : ∀ c r', r = c :: r' → digit c = false) : W l p = numT m p :: W l (p + (Go.Lib.decDigits m).length) := by
  have hne := dec_ne m
  have hp := drop_le (w := Go.Lib.decDigits m ++ r) (by simp [hne]) h
  have h2 := read_digs h (dec_dig m) hne hr
  rw [number_dec hm] at h2
  exact W_step (by omega) h2 rfl (by show k_number ≠ k_end; decide)
theorem W_tail {l : Bs} {p : Nat} (h : l.drop p = postR) : W l p = [⟨s_semi, s_semi, p, 0, 0⟩, ⟨s_rb, s_rb, p + 2, 0, 0⟩, ⟨k_end, [], l.length, 0, 0⟩] := by
  have hp := drop_le (w := postR) (by simp [postR]) h
  have h1 : l.drop (p + 1) = [32, 125] := drop_at (w := [59]) h
  have h2 : l.drop (p + 2) = [125] := drop_at (w := [59, 32]) h
  have h3 : l.drop (p + 3) = [] := drop_at (w := [59, 32, 125]) h
  have hl : postR.length = 3 := rfl
  rw [W_sign (c := 59) h rfl rfl rfl (by decide) rfl]
  rw [W_step (p := p + 1) (by omega) ((read_blank h1).trans (read_sign (c := 125) h2 rfl rfl rfl (by decide) rfl)) rfl (by show ([125] : Bs) ≠ k_end; decide)]
  rw [W_end (p := p + 2 + 1) (by omega) (read_end h3) rfl]
  rfl
theorem W_pre (X : Bs) : words (preR ++ X) ((preR ++ X).length + 1) 0 = ⟨k_fn, k_fn, 0, 0, 0⟩ :: ⟨k_name, [102], 3, 0, 0⟩ :: ⟨s_lp, s_lp, 4, 0, 0⟩ :: ⟨s_rp, s_rp, 5, 0, 0⟩ :: ⟨s_lb, s_lb, 7, 0, 0⟩ :: ⟨k_return, k_return, 9, 0, 0⟩ :: W (preR ++ X) 15 := by
  have hl : (preR ++ X).length = X.length + 16 := by rw [List.length_append, Nat.add_comm]; rfl
  show W (preR ++ X) 0 = _
  rw [W_step (q := 2) (t := ⟨k_fn, k_fn, 0, 0, 0⟩) (by omega) rfl rfl (by decide)]
  rw [W_step (q := 4) (t := ⟨k_name, [102], 3, 0, 0⟩) (by omega) rfl rfl (by decide)]
  rw [W_step (q := 5) (t := ⟨s_lp, s_lp, 4, 0, 0⟩) (by omega) rfl rfl (by decide)]
  rw [W_step (q := 6) (t := ⟨s_rp, s_rp, 5, 0, 0⟩) (by omega) rfl rfl (by decide)]
  rw [W_step (q := 8) (t := ⟨s_lb, s_lb, 7, 0, 0⟩) (by omega) rfl rfl (by decide)]
  rw [W_step (q := 15) (t := ⟨k_return, k_return, 9, 0, 0⟩) (by omega) rfl rfl (by decide)]
theorem law_of {X : Bs} {M q1 q2 q3 : Nat} {x : Tk} {xs : List Tk} {e : Ex} (hW : W (preR ++ X) 15 = x :: xs) (hx : x.err = 0) (hn : ¬ (x.kind = k_number ∧ x.n = -9223372036854775808)) (hM : fuelOf (preR ++ X) = M + 1)
    (h : (pf M).expr 0 1 (x :: xs) = .ok e [⟨s_semi, s_semi, q1, 0, 0⟩, ⟨s_rb, s_rb, q2, 0, 0⟩, ⟨k_end, [], q3, 0, 0⟩]) :
    parseP (preR ++ X) (fuelOf (preR ++ X)) = .ok [⟨[102], [], [.mk 7 [] e [] []]⟩] [⟨k_end, [], q3, 0, 0⟩] := by
  unfold parseP
  rw [W_pre, hW, step_ok rfl (fun e => absurd e.1 (by show k_fn ≠ k_number; decide)), bind_ok, hM, shell hx hn h, bind_ok]
  unfold loopF
  rw [if_pos (show curK [(⟨k_end, [], q3, 0, 0⟩ : Tk)] = k_end from rfl)]
theorem fuel_at (X : Bs) (k : Nat) (h : k + 1 ≤ 228) : ∃ M, fuelOf (preR ++ X) = M + k + 1 := by
  refine ⟨fuelOf (preR ++ X) - (k + 1), ?_⟩
  have hl : (preR ++ X).length = X.length + 16 := by rw [List.length_append, Nat.add_comm]; rfl
  unfold fuelOf
  omega
theorem W_15 (X : Bs) {t : Tk} {q : Nat} (h : readT (preR ++ X) 16 = (t, q)) (he : t.err = 0) (hk : t.kind ≠ k_end) : W (preR ++ X) 15 = t :: W (preR ++ X) q := by
  have hl : (preR ++ X).length = X.length + 16 := by rw [List.length_append, Nat.add_comm]; rfl
  exact W_step (by omega) ((read_blank (l := preR ++ X) (p := 15) (r := X) rfl).trans h) he hk
theorem post_dig : ∀ c r', postR = c :: r' → digit c = false := fun c r' h => by
  injection h with h1 h2
  subst h1; rfl
theorem rp_dig (r : Bs) : ∀ c r', (41 : UInt8) :: r = c :: r' → digit c = false := fun c r' h => by
  injection h with h1 h2
  subst h1; rfl
/-- a number stands for itself -/
theorem law_num {v : Int} (h0 : -9223372036854775808 ≤ v) (h1 : v ≤ 9223372036854775807) : ∃ ts, parseP (preR ++ Go.Lib.itoa v ++ postR) (fuelOf (preR ++ Go.Lib.itoa v ++ postR)) = .ok [⟨[102], [], [.mk 7 [] (.mk 0 0 v [] [] []) [] []]⟩] ts := by
  rw [List.append_assoc]
  obtain ⟨M, hM⟩ := fuel_at (Go.Lib.itoa v ++ postR) 11 (by decide)
  by_cases hv : v < 0
  · have hi : Go.Lib.itoa v = 45 :: Go.Lib.decDigits v.natAbs := by unfold Go.Lib.itoa; rw [if_pos hv]
    have hd : (preR ++ (Go.Lib.itoa v ++ postR)).drop 16 = 45 :: (Go.Lib.decDigits v.natAbs ++ postR) := by rw [hi]; rfl
    have hd2 : (preR ++ (Go.Lib.itoa v ++ postR)).drop 17 = Go.Lib.decDigits v.natAbs ++ postR := drop_at (w := [45]) hd
    have hW := W_15 (Go.Lib.itoa v ++ postR) (read_sign (c := 45) hd rfl rfl rfl (by decide) rfl) rfl (by show ([45] : Bs) ≠ k_end; decide)
    rw [W_num hd2 (by omega) post_dig, W_tail (drop_at hd2)] at hW
    have := un_neg (h := M) (d := 1) (m := v.natAbs) (p := 17) (q := 16) (b := ⟨s_semi, s_semi, 17 + (Go.Lib.decDigits v.natAbs).length, 0, 0⟩) (r := [⟨s_rb, s_rb, 17 + (Go.Lib.decDigits v.natAbs).length + 2, 0, 0⟩, ⟨k_end, [], (preR ++ (Go.Lib.itoa v ++ postR)).length, 0, 0⟩]) (by omega) (by decide) rfl (by show s_semi ≠ k_number; decide)
    rw [show -(v.natAbs : Int) = v by omega] at this
    exact ⟨_, law_of hW rfl (fun e => absurd e.1 (by show ([45] : Bs) ≠ k_number; decide)) hM (expr0 this no_semi)⟩
  · have hi : Go.Lib.itoa v = Go.Lib.decDigits v.toNat := by unfold Go.Lib.itoa; rw [if_neg hv]
    have hd : (preR ++ (Go.Lib.itoa v ++ postR)).drop 16 = Go.Lib.decDigits v.toNat ++ postR := by rw [hi]; rfl
    have hr := read_digs hd (dec_dig _) (dec_ne _) post_dig
    rw [number_dec (by omega)] at hr
    have hW := W_15 (Go.Lib.itoa v ++ postR) hr rfl (by show k_number ≠ k_end; decide)
    rw [W_tail (drop_at hd)] at hW
    have := un_num (h := M) (d := 1) (m := v.toNat) (p := 16) (b := ⟨s_semi, s_semi, 16 + (Go.Lib.decDigits v.toNat).length, 0, 0⟩) (r := [⟨s_rb, s_rb, 16 + (Go.Lib.decDigits v.toNat).length + 2, 0, 0⟩, ⟨k_end, [], (preR ++ (Go.Lib.itoa v ++ postR)).length, 0, 0⟩]) (by omega) rfl (by show s_semi ≠ k_number; decide)
    rw [show (v.toNat : Int) = v by omega] at this
    exact ⟨_, law_of hW rfl (fun e => by have : -(v.toNat : Int) = -9223372036854775808 := e.2; omega) hM (expr0 this no_semi)⟩
/-- a minus and parentheses around it -/
theorem law_par {v : Int} (h0 : -9223372036854775808 ≤ v) (h1 : v ≤ 9223372036854775807) : ∃ ts, parseP (preR ++ ([45, 40] ++ Go.Lib.itoa v ++ [41]) ++ postR) (fuelOf (preR ++ ([45, 40] ++ Go.Lib.itoa v ++ [41]) ++ postR)) = .ok [⟨[102], [], [.mk 7 [] (.mk 2 0 0 [] [] [.mk 0 0 v [] [] []]) [] []]⟩] ts := by
  rw [List.append_assoc]
  obtain ⟨M, hM⟩ := fuel_at ([45, 40] ++ Go.Lib.itoa v ++ [41] ++ postR) 23 (by decide)
  generalize hX : [45, 40] ++ Go.Lib.itoa v ++ [41] ++ postR = X at hM
  have hd0 : (preR ++ X).drop 16 = 45 :: 40 :: (Go.Lib.itoa v ++ (41 :: postR)) := by rw [← hX]; simp [preR]
  have hd1 : (preR ++ X).drop 17 = 40 :: (Go.Lib.itoa v ++ (41 :: postR)) := drop_at (w := [45]) hd0
  have hd : (preR ++ X).drop 18 = Go.Lib.itoa v ++ (41 :: postR) := drop_at (w := [40]) hd1
  have hW := W_15 X (read_sign (c := 45) hd0 rfl rfl rfl (by decide) rfl) rfl (by show ([45] : Bs) ≠ k_end; decide)
  rw [W_sign (c := 40) hd1 rfl rfl rfl (by decide) rfl] at hW
  by_cases hv : v < 0
  · have hi : Go.Lib.itoa v = 45 :: Go.Lib.decDigits v.natAbs := by unfold Go.Lib.itoa; rw [if_pos hv]
    rw [hi] at hd
    have hd2 : (preR ++ X).drop 19 = Go.Lib.decDigits v.natAbs ++ (41 :: postR) := drop_at (w := [45]) hd
    have hd3 := drop_at hd2
    have hd4 : (preR ++ X).drop (19 + (Go.Lib.decDigits v.natAbs).length + 1) = postR := drop_at (w := [41]) hd3
    rw [W_sign (c := 45) hd rfl rfl rfl (by decide) rfl, W_num hd2 (by omega) (rp_dig _), W_sign (c := 41) hd3 rfl rfl rfl (by decide) rfl, W_tail hd4] at hW
    have h2 := un_neg (h := M) (d := 3) (m := v.natAbs) (p := 19) (q := 18) (b := sgn 41 (19 + (Go.Lib.decDigits v.natAbs).length)) (r := [⟨s_semi, s_semi, 19 + (Go.Lib.decDigits v.natAbs).length + 1, 0, 0⟩, ⟨s_rb, s_rb, 19 + (Go.Lib.decDigits v.natAbs).length + 1 + 2, 0, 0⟩, ⟨k_end, [], (preR ++ X).length, 0, 0⟩]) (by omega) (by decide) rfl (by show ([41] : Bs) ≠ k_number; decide)
    rw [show -(v.natAbs : Int) = v by omega] at h2
    have h3 := un_par (g := M + 2 + 9) (d := 1) (q1 := 16) (q2 := 17) (q3 := 19 + (Go.Lib.decDigits v.natAbs).length) (x := ⟨s_minus, s_minus, 18, 0, 0⟩) (by decide) rfl (fun e => absurd e.1 (by show s_minus ≠ k_number; decide)) rfl (by show s_semi ≠ k_number; decide) (expr0 h2 no_rp)
    exact ⟨_, law_of hW rfl (fun e => absurd e.1 (by show ([45] : Bs) ≠ k_number; decide)) hM (expr0 (f := M + 14) h3 no_semi)⟩
  · have hi : Go.Lib.itoa v = Go.Lib.decDigits v.toNat := by unfold Go.Lib.itoa; rw [if_neg hv]
    rw [hi] at hd
    have hd3 := drop_at hd
    have hd4 : (preR ++ X).drop (18 + (Go.Lib.decDigits v.toNat).length + 1) = postR := drop_at (w := [41]) hd3
    rw [W_num hd (by omega) (rp_dig _), W_sign (c := 41) hd3 rfl rfl rfl (by decide) rfl, W_tail hd4] at hW
    have h2 := un_num (h := M) (d := 3) (m := v.toNat) (p := 18) (b := sgn 41 (18 + (Go.Lib.decDigits v.toNat).length)) (r := [⟨s_semi, s_semi, 18 + (Go.Lib.decDigits v.toNat).length + 1, 0, 0⟩, ⟨s_rb, s_rb, 18 + (Go.Lib.decDigits v.toNat).length + 1 + 2, 0, 0⟩, ⟨k_end, [], (preR ++ X).length, 0, 0⟩]) (by omega) rfl (by show ([41] : Bs) ≠ k_number; decide)
    rw [show (v.toNat : Int) = v by omega] at h2
    have h3 := un_par (g := M + 2 + 9) (d := 1) (q1 := 16) (q2 := 17) (q3 := 18 + (Go.Lib.decDigits v.toNat).length) (x := numT v.toNat 18) (by decide) rfl (fun e => by have : -(v.toNat : Int) = -9223372036854775808 := e.2; omega) rfl (by show s_semi ≠ k_number; decide) (expr0 h2 no_rp)
    exact ⟨_, law_of hW rfl (fun e => absurd e.1 (by show ([45] : Bs) ≠ k_number; decide)) hM (expr0 (f := M + 14) h3 no_semi)⟩
theorem itoa_len {v : Int} (h0 : -9223372036854775808 ≤ v) (h1 : v ≤ 9223372036854775807) : (Go.Lib.itoa v).length ≤ 20 := by
  unfold Go.Lib.itoa
  split
  · have := dec_len 18 v.natAbs (by omega)
    rw [List.length_cons]; omega
  · have := dec_len 18 v.toNat (by omega)
    omega
end Go.Tx
namespace Go.Proofs.YtapdmkgdiaechaaDoor
open Go Go.Sh Go.Tx
set_option linter.unusedVariables false
set_option linter.unusedSimpArgs false
set_option linter.unusedSectionVars false
attribute [local irreducible] Blk Ext RdS
theorem es_nil : ∀ {l : List ET}, ET.es l = [] → l = []
  | [], _ => rfl
  | _ :: _, h => by simp [ET.es] at h
theorem es_one : ∀ {l : List ET} {e : Ex}, ET.es l = [e] → ∃ t, l = [t] ∧ ET.e t = e
  | [], _, h => by simp [ET.es] at h
  | [t], _, h => ⟨t, rfl, by simpa [ET.es] using h⟩
  | _ :: _ :: _, _, h => by simp [ET.es] at h
theorem ret_num {v : Int} (h0 : -9223372036854775808 ≤ v) (h1 : v ≤ 9223372036854775807) : RetIs (Go.Lib.itoa v) (.mk 0 0 v [] [] []) := by
  obtain ⟨ts, h⟩ := law_num h0 h1
  refine ⟨[102], [], [], [], [], ts, ?_⟩
  unfold PR
  have hl := itoa_len h0 h1
  rw [if_neg (by simp [preR, postR]; omega)]
  exact h
theorem ret_par {v : Int} (h0 : -9223372036854775808 ≤ v) (h1 : v ≤ 9223372036854775807) : RetIs ([45, 40] ++ Go.Lib.itoa v ++ [41]) (.mk 2 0 0 [] [] [.mk 0 0 v [] [] []]) := by
  obtain ⟨ts, h⟩ := law_par h0 h1
  refine ⟨[102], [], [], [], [], ts, ?_⟩
  unfold PR
  have hl := itoa_len h0 h1
  rw [if_neg (by simp [preR, postR]; omega)]
  exact h
set_option maxHeartbeats 2000000 in
theorem textNumber_c (v : Int) (w : World) (hG : Rg w) (hP : Pow w) (h0 : -9223372036854775808 ≤ v) (h1 : v ≤ 9223372036854775807) :
    Cl Tryd.prog 4 #[.int .i64 v] w (fun u w' => u = .bool true ∧ Ext w w') (fun _ _ => False) := by
  have hl := itoa_len h0 h1
  refine calls_ex (args := [.int .i64 v]) T.ok Tryd.func4 rfl rfl rfl rfl ?_
  have H := Hp.begin nw w
  repeat' ((conv => whnf); first | (((with_reducible show Gd _ _ _); first | with_reducible refine Gd.t ?_ | with_reducible refine Gd.f ?_ | with_reducible refine Gd.dec (fun _ => ?_) (fun _ => ?_) | with_reducible refine Gd.beq (fun _ => ?_) (fun _ => ?_) | with_reducible refine Gd.bne (fun _ => ?_) (fun _ => ?_) | with_reducible refine Gd.not ?_ | refine Gd.t ?_ | refine Gd.f ?_ | with_reducible refine Gd.var (fun _ => ?_) (fun _ => ?_)) <;> first | (exfalso; omega) | skip) | with_reducible refine Sq.mk ?_ | ((with_reducible show Ld1 _ _ _); first | refine Ld1.h H ?_ | refine Ld1.rF ?_ | refine Ld1.r ?_) | ((with_reducible show Ld _ _ _ _); first | refine Ld.h H ?_ | refine Ld.r ?_) | ((with_reducible show Ix _ _ _ _ _); (first | refine Ix.h ?_ | refine Ix.ha ?_)) | (refine Al.hp H ?_; clear H; intro _ _ H _) | (refine St.h H ?_; clear H; intro _ H))
  (((conv => whnf); refine Cl.mk (format_c v _ h0 h1 (hP.ext H.e hP.lt)) ?_); rintro _ _ ⟨rfl, hx⟩; replace H := H.ext hx; clear hx)
  repeat' ((conv => whnf); first | (((with_reducible show Gd _ _ _); first | with_reducible refine Gd.t ?_ | with_reducible refine Gd.f ?_ | with_reducible refine Gd.dec (fun _ => ?_) (fun _ => ?_) | with_reducible refine Gd.beq (fun _ => ?_) (fun _ => ?_) | with_reducible refine Gd.bne (fun _ => ?_) (fun _ => ?_) | with_reducible refine Gd.not ?_ | refine Gd.t ?_ | refine Gd.f ?_ | with_reducible refine Gd.var (fun _ => ?_) (fun _ => ?_)) <;> first | (exfalso; omega) | skip) | with_reducible refine Sq.mk ?_ | ((with_reducible show Ld1 _ _ _); first | refine Ld1.h H ?_ | refine Ld1.rF ?_ | refine Ld1.r ?_) | ((with_reducible show Ld _ _ _ _); first | refine Ld.h H ?_ | refine Ld.r ?_) | ((with_reducible show Ix _ _ _ _ _); (first | refine Ix.h ?_ | refine Ix.ha ?_)) | (refine Al.hp H ?_; clear H; intro _ _ H _) | (refine St.h H ?_; clear H; intro _ H))
  ((conv => whnf); refine Cl.mk (returned_c (Go.Lib.itoa v) (.mk 0 0 v [] [] []) _ (hG.ext H.e) (by omega) (ret_num h0 h1)) ?_)
  rintro _ w2 ⟨⟨k, o, n, a, b, A, c, l⟩, he, rfl, H'⟩
  simp only [ET.e, Ex.mk.injEq] at he
  obtain ⟨rfl, rfl, hv, rfl, rfl, hes⟩ := he
  obtain rfl := hv.symm
  obtain rfl := es_nil hes
  replace H := H.fr0 H' (.inl rfl)
  clear H' hes
  repeat' ((conv => whnf); first | ((with_reducible show Gd (bs _ == _) _ _); first | refine Gd.sY (by assumption) ?_ | refine Gd.sk (by assumption) ?_ | refine Gd.sN (by assumption) ?_) | ((conv => whnf); first | (((with_reducible show Gd _ _ _); first | with_reducible refine Gd.t ?_ | with_reducible refine Gd.f ?_ | with_reducible refine Gd.dec (fun _ => ?_) (fun _ => ?_) | with_reducible refine Gd.beq (fun _ => ?_) (fun _ => ?_) | with_reducible refine Gd.bne (fun _ => ?_) (fun _ => ?_) | with_reducible refine Gd.not ?_ | refine Gd.t ?_ | refine Gd.f ?_ | with_reducible refine Gd.var (fun _ => ?_) (fun _ => ?_)) <;> first | (exfalso; omega) | skip) | with_reducible refine Sq.mk ?_ | ((with_reducible show Ld1 _ _ _); first | refine Ld1.h H ?_ | refine Ld1.rF ?_ | refine Ld1.r ?_) | ((with_reducible show Ld _ _ _ _); first | refine Ld.h H ?_ | refine Ld.r ?_) | ((with_reducible show Ix _ _ _ _ _); (first | refine Ix.h ?_ | refine Ix.ha ?_)) | (refine St.h H ?_; clear H; intro _ H)) | refine Sm.strix T.ok ?_)
  ((conv => whnf); refine Al.hp H ?_; clear H; intro p4 _ H _)
  repeat' ((conv => whnf); first | (((with_reducible show Gd _ _ _); first | with_reducible refine Gd.t ?_ | with_reducible refine Gd.f ?_ | with_reducible refine Gd.dec (fun _ => ?_) (fun _ => ?_) | with_reducible refine Gd.beq (fun _ => ?_) (fun _ => ?_) | with_reducible refine Gd.bne (fun _ => ?_) (fun _ => ?_) | with_reducible refine Gd.not ?_ | refine Gd.t ?_ | refine Gd.f ?_ | with_reducible refine Gd.var (fun _ => ?_) (fun _ => ?_)) <;> first | (exfalso; omega) | skip) | with_reducible refine Sq.mk ?_ | ((with_reducible show Ld1 _ _ _); first | refine Ld1.h H ?_ | refine Ld1.rF ?_ | refine Ld1.r ?_) | ((with_reducible show Ld _ _ _ _); first | refine Ld.h H ?_ | refine Ld.r ?_) | ((with_reducible show Ix _ _ _ _ _); (first | refine Ix.h ?_ | refine Ix.ha ?_)) | (refine Al.hp H ?_; clear H; intro _ _ H _) | (refine St.h H ?_; clear H; intro _ H))
  all_goals first | (exfalso; exact (by assumption : (_ : Int) ≠ _) rfl) | skip
  refine Sm.cat (l := [45, 40]) (m := Go.Lib.itoa v) (by simp; omega) ?_
  repeat' ((conv => whnf); first | (((with_reducible show Gd _ _ _); first | with_reducible refine Gd.t ?_ | with_reducible refine Gd.f ?_ | with_reducible refine Gd.dec (fun _ => ?_) (fun _ => ?_) | with_reducible refine Gd.beq (fun _ => ?_) (fun _ => ?_) | with_reducible refine Gd.bne (fun _ => ?_) (fun _ => ?_) | with_reducible refine Gd.not ?_ | refine Gd.t ?_ | refine Gd.f ?_ | with_reducible refine Gd.var (fun _ => ?_) (fun _ => ?_)) <;> first | (exfalso; omega) | skip) | with_reducible refine Sq.mk ?_ | ((with_reducible show Ld1 _ _ _); first | refine Ld1.h H ?_ | refine Ld1.rF ?_ | refine Ld1.r ?_) | ((with_reducible show Ld _ _ _ _); first | refine Ld.h H ?_ | refine Ld.r ?_) | ((with_reducible show Ix _ _ _ _ _); (first | refine Ix.h ?_ | refine Ix.ha ?_)) | (refine Al.hp H ?_; clear H; intro _ _ H _) | (refine St.h H ?_; clear H; intro _ H))
  refine Sm.cat (l := [45, 40] ++ Go.Lib.itoa v) (m := [41]) (by simp; omega) ?_
  repeat' ((conv => whnf); first | (((with_reducible show Gd _ _ _); first | with_reducible refine Gd.t ?_ | with_reducible refine Gd.f ?_ | with_reducible refine Gd.dec (fun _ => ?_) (fun _ => ?_) | with_reducible refine Gd.beq (fun _ => ?_) (fun _ => ?_) | with_reducible refine Gd.bne (fun _ => ?_) (fun _ => ?_) | with_reducible refine Gd.not ?_ | refine Gd.t ?_ | refine Gd.f ?_ | with_reducible refine Gd.var (fun _ => ?_) (fun _ => ?_)) <;> first | (exfalso; omega) | skip) | with_reducible refine Sq.mk ?_ | ((with_reducible show Ld1 _ _ _); first | refine Ld1.h H ?_ | refine Ld1.rF ?_ | refine Ld1.r ?_) | ((with_reducible show Ld _ _ _ _); first | refine Ld.h H ?_ | refine Ld.r ?_) | ((with_reducible show Ix _ _ _ _ _); (first | refine Ix.h ?_ | refine Ix.ha ?_)) | (refine Al.hp H ?_; clear H; intro _ _ H _) | (refine St.h H ?_; clear H; intro _ H))
  ((conv => whnf); refine Cl.mk (returned_c ([45, 40] ++ Go.Lib.itoa v ++ [41]) (.mk 2 0 0 [] [] [.mk 0 0 v [] [] []]) _ (hG.ext H.e) (by simp; omega) (ret_par h0 h1)) ?_)
  rintro _ w3 ⟨⟨k2, o2, n2, a2, b2, A2, c2, l2⟩, he2, rfl, H'⟩
  simp only [ET.e, Ex.mk.injEq] at he2
  obtain ⟨rfl, rfl, rfl, rfl, rfl, hes2⟩ := he2
  obtain ⟨⟨k3, o3, n3, a3, b3, A3, c3, l3⟩, rfl, he3⟩ := es_one hes2
  simp only [ET.e, Ex.mk.injEq] at he3
  obtain ⟨rfl, rfl, hv, rfl, rfl, hes3⟩ := he3
  obtain rfl := hv.symm
  replace H := H.fr0 H' (.inl rfl)
  clear H' hes2 hes3
  repeat' ((conv => whnf); first | ((with_reducible show Gd (bs _ == _) _ _); first | refine Gd.sY (by assumption) ?_ | refine Gd.sk (by assumption) ?_ | refine Gd.sN (by assumption) ?_) | ((conv => whnf); first | (((with_reducible show Gd _ _ _); first | with_reducible refine Gd.t ?_ | with_reducible refine Gd.f ?_ | with_reducible refine Gd.dec (fun _ => ?_) (fun _ => ?_) | with_reducible refine Gd.beq (fun _ => ?_) (fun _ => ?_) | with_reducible refine Gd.bne (fun _ => ?_) (fun _ => ?_) | with_reducible refine Gd.not ?_ | refine Gd.t ?_ | refine Gd.f ?_ | with_reducible refine Gd.var (fun _ => ?_) (fun _ => ?_)) <;> first | (exfalso; omega) | skip) | with_reducible refine Sq.mk ?_ | ((with_reducible show Ld1 _ _ _); first | refine Ld1.h H ?_ | refine Ld1.rF ?_ | refine Ld1.r ?_) | ((with_reducible show Ld _ _ _ _); first | refine Ld.h H ?_ | refine Ld.r ?_) | ((with_reducible show Ix _ _ _ _ _); (first | refine Ix.h ?_ | refine Ix.ha ?_)) | (refine St.h H ?_; clear H; intro _ H)) | refine Sm.strix T.ok ?_)
  ((conv => whnf); refine Al.hp H ?_; clear H; intro p6 _ H _)
  ((conv => whnf); first | (((with_reducible show Gd _ _ _); first | with_reducible refine Gd.t ?_ | with_reducible refine Gd.f ?_ | with_reducible refine Gd.dec (fun _ => ?_) (fun _ => ?_) | with_reducible refine Gd.beq (fun _ => ?_) (fun _ => ?_) | with_reducible refine Gd.bne (fun _ => ?_) (fun _ => ?_) | with_reducible refine Gd.not ?_ | refine Gd.t ?_ | refine Gd.f ?_ | with_reducible refine Gd.var (fun _ => ?_) (fun _ => ?_)) <;> first | (exfalso; omega) | skip) | with_reducible refine Sq.mk ?_ | ((with_reducible show Ld1 _ _ _); first | refine Ld1.h H ?_ | refine Ld1.rF ?_ | refine Ld1.r ?_) | ((with_reducible show Ld _ _ _ _); first | refine Ld.h H ?_ | refine Ld.r ?_) | ((with_reducible show Ix _ _ _ _ _); (first | refine Ix.h ?_ | refine Ix.ha ?_)) | (refine St.h H ?_; clear H; intro _ H))
  have hk : RdS ET.enc 6 _ A2 [.mk 0 0 v [] [] A3 c3 l3] := (H.atC (c := trs [.mk 2 0 0 [] [] A2 c2 [.mk 0 0 v [] [] A3 c3 l3]]) 1 rfl).1.1.1.rd
  have hx : [ET.mk 0 0 v [] [] A3 c3 l3][0]? = some (ET.mk 0 0 v [] [] A3 c3 l3) := rfl
  repeat' ((conv => whnf); first | (((with_reducible show Gd _ _ _); first | with_reducible refine Gd.t ?_ | with_reducible refine Gd.f ?_ | with_reducible refine Gd.dec (fun _ => ?_) (fun _ => ?_) | with_reducible refine Gd.beq (fun _ => ?_) (fun _ => ?_) | with_reducible refine Gd.bne (fun _ => ?_) (fun _ => ?_) | with_reducible refine Gd.not ?_ | refine Gd.t ?_ | refine Gd.f ?_ | with_reducible refine Gd.var (fun _ => ?_) (fun _ => ?_)) <;> first | (exfalso; omega) | skip) | with_reducible refine Sq.mk ?_ | ((with_reducible show Ld1 _ _ _); first | refine Ld1.h H ?_ | refine Ld1.rF ?_ | refine Ld1.r ?_) | ((with_reducible show Ld _ _ _ _); first | refine Ld.h H ?_ | refine Ld.r ?_) | ((with_reducible show Ix _ _ _ _ _); (first | refine Ix.h ?_ | refine Ix.ha ?_)) | (refine Al.hp H ?_; clear H; intro _ _ H _) | (refine St.h H ?_; clear H; intro _ H))
  all_goals first | (exfalso; exact (by assumption : (_ : Int) ≠ _) rfl) | skip
  (conv => whnf)
  refine ⟨b_eq ?_, H.e⟩
  simp
end Go.Proofs.YtapdmkgdiaechaaDoor
namespace Go.Proofs.YtapdmkgdiaechaaDoor
open Go Go.Sh Go.Tx
set_option linter.unusedVariables false
set_option linter.unusedSimpArgs false
attribute [local irreducible] Blk Ext RdS
theorem kids : Kids Tryd.prog (· < Tryd.prog.types.size) := kids_rows (by kernel_rfl) (by kernel_rfl)
theorem full : ∀ t e, t < Tryd.prog.types.size → Tryd.prog.underlying t = some (.slice e) → 0 < Tryd.prog.cellsOf e := slices_full_of _ (by kernel_rfl)
theorem own : ownKnob Tryd.prog.godebug = none := by kernel_rfl
theorem u_int : Tryd.prog.underlying 3 = some (.int .i64) := (T.ok.1.get (t := 3) (i := T.t3) rfl).1
theorem u_int64 : Tryd.prog.underlying 2 = some (.int .i64) := (T.ok.1.get (t := 2) (i := T.t2) rfl).1
theorem u_bool : Tryd.prog.underlying 4 = some .bool := (T.ok.1.get (t := 4) (i := T.t4) rfl).1
theorem wf64 {n : Int} (h : (Lit.int .i64 n).wf = true) : -9223372036854775808 ≤ n ∧ n ≤ 9223372036854775807 := by
  have h := (Lit.wf_int_iff _ _).1 h
  have e1 : IntKind.i64.min = -9223372036854775808 := by decide
  have e2 : IntKind.i64.max = 9223372036854775807 := by decide
  rw [e1, e2] at h
  exact h
set_option maxRecDepth 100000 in
/-- a number that comes in -/
theorem arg_int {H : Type} {enc : TypeId × Value → H} {w : World} {sp : Nat → Bool} {held : Bool} {v : Value} {d : DataW H} {p : List MemPlace} {r : Go.Reach} {b0 : Nat} (hv : Value.okWide Tryd.prog w r b0 3 v) (h : DataW.Trod enc Tryd.prog w 0 sp held 3 v d p) :
    ∃ n : Int, v = .int .i64 n ∧ -9223372036854775808 ≤ n ∧ n ≤ 9223372036854775807 := by
  obtain ⟨m, h1, _, _, h4⟩ := ChangeShapes.open_int (P := Tryd.prog) (t := 3) u_int hv h
  exact ⟨m, h1, wf64 h4⟩
set_option maxRecDepth 100000 in
theorem arg_int64 {H : Type} {enc : TypeId × Value → H} {w : World} {sp : Nat → Bool} {held : Bool} {v : Value} {d : DataW H} {p : List MemPlace} {r : Go.Reach} {b0 : Nat} (hv : Value.okWide Tryd.prog w r b0 2 v) (h : DataW.Trod enc Tryd.prog w 0 sp held 2 v d p) :
    ∃ n : Int, v = .int .i64 n ∧ -9223372036854775808 ≤ n ∧ n ≤ 9223372036854775807 := by
  obtain ⟨m, h1, _, _, h4⟩ := ChangeShapes.open_int (P := Tryd.prog) (t := 2) u_int64 hv h
  exact ⟨m, h1, wf64 h4⟩
abbrev laidData : List (String × DataW Unit) := [("math/bits.deBruijn32tab", Rows.laid_math_bits_deBruijn32tab), ("math/bits.deBruijn64tab", Rows.laid_math_bits_deBruijn64tab), ("internal/strconv.uint64pow10", Rows.laid_internal_strconv_uint64pow10), ("plunder/ops.names", Rows.laid_plunder_ops_names), ("plunder/text.levels", Rows.laid_plunder_text_levels), ("plunder/text.keywords", Rows.laid_plunder_text_keywords), ("plunder/text.signs", Rows.laid_plunder_text_signs)]
theorem rg_laid {W : World} (h : laidMet Tryd.prog laidData W ∧ handlesMet Tryd.prog [("errors.errorType", Rows.laid_errors_errorType)] W) : Rg W ∧ Pow W := by
  have h1 := laidMet.tail (laidMet.tail h.1)
  have hp : Pow W := Lib.tabIs_of_head (zs := Lib.pow10Tab) (g := 2) (t := 111) (e := 85) (n := 20) (by kernel_rfl) (by kernel_rfl) (by kernel_rfl) (by kernel_rfl) (by kernel_rfl) (by kernel_rfl) h1
  have h2 := laidMet.tail h1
  have hn := tab_str (l := opNames) (g := 7) (n := 16) (by kernel_rfl) rfl (by kernel_rfl) rfl (by kernel_rfl) h2
  have h3 := laidMet.tail h2
  have hl := tab_lvl (ls := levels) (g := 6) (n := 8) (by kernel_rfl) rfl (by kernel_rfl) rfl (by kernel_rfl) h3
  have h4 := laidMet.tail h3
  have hk := tab_str (l := keywords) (g := 3) (n := 15) (by kernel_rfl) rfl (by kernel_rfl) rfl (by kernel_rfl) h4
  have h5 := laidMet.tail h4
  have hs := tab_str (l := signs) (g := 1) (n := 24) (by kernel_rfl) rfl (by kernel_rfl) rfl (by kernel_rfl) h5
  exact ⟨rg_of hk hs hn hl hp (eg_of h.2), hp⟩
def litV : DataW Unit → List Value
  | .lit (.int k n) => [.int k n]
  | .lit (.string s) => [.string (bs s)]
  | _ => []
def litVs : DataW Unit → List Value
  | .agg l => l.flatMap litV
  | _ => []
def setG (cs : List Value) : Obj → Obj
  | .cells _ t frozen => .cells cs.toArray t frozen
  | o => o
/-- a settled world in which the tables are laid -/
noncomputable def laidWorld (os : Os) : World :=
  let w0 := World.holding Tryd.prog os ⟨#[], #[], []⟩
  let n := w0.heap.size
  { w0 with heap := ((((((((w0.heap.modify 4 (setG (litVs Rows.laid_math_bits_deBruijn32tab))).modify 5 (setG (litVs Rows.laid_math_bits_deBruijn64tab))).modify 2 (setG (litVs Rows.laid_internal_strconv_uint64pow10))).modify 7 (setG (litVs Rows.laid_plunder_ops_names))).modify 3 (setG (litVs Rows.laid_plunder_text_keywords))).modify 1 (setG (litVs Rows.laid_plunder_text_signs))).modify 0 (setG [.iface 92 (.agg #[.pointer (some ⟨8, 52, none⟩)])])).modify 6 (setG ((List.range 8).map fun i => .slice (some ⟨n + i, 0, none⟩) ((levels.map List.length).getD i 0) ((levels.map List.length).getD i 0)))) ++ (levels.map fun l => Obj.cells (l.map fun b => Value.string (bs b)).toArray 9 (0, 0)).toArray }
end Go.Proofs.YtapdmkgdiaechaaDoor
