/- own work: TvD, TvE, TvF, TvG, TvH, ShTr, TvI, TvJ, TvK, TyR, TvL, TxN, TxQ, TxR, TvM, TsA, TsB, TsC, TxG, TzA, TzB -/
import Derived.Shelf.Strings.Builder1
import Derived.Test.YtfnjodpehomgfaaGreatDoorProg
import Derived.Shelf.Strings.OnBuilder
import Derived.Shelf.Strings.Repeat
import GoSem.Op.String
import Derived.Test.YtfnjodpehomgfaaGreatDoorMP2
import Derived.Test.YtfnjodpehomgfaaGreatDoorMP3
set_option linter.unusedVariables false
set_option linter.unusedSimpArgs false
set_option linter.unusedSectionVars false
namespace Go.Proofs.YtfnjodpehomgfaaGreatDoor
open Go Go.Sh Go.Tx
attribute [local irreducible] Blk Ext RdS
mutual
def ET.Rd (w : World) : ET → Prop
  | .mk _ _ n nm cb A c ks => RdS ET.enc 6 w A ks ∧ ET.Rds w ks ∧ ks.length ≤ 9000000 ∧ nm.length ≤ 9000000 ∧ cb.length ≤ 9000000 ∧ -9223372036854775808 ≤ n ∧ n ≤ 9223372036854775807
def ET.Rds (w : World) : List ET → Prop
  | [] => True
  | x :: r => ET.Rd w x ∧ ET.Rds w r
end
mutual
theorem ET.Rd.ext {w w' : World} (e : Ext w w') : ∀ {t : ET}, ET.Rd w t → ET.Rd w' t
  | .mk _ _ _ _ _ _ _ _, h => ⟨RdS.from e h.1, ET.Rds.ext e h.2.1, h.2.2⟩
theorem ET.Rds.ext {w w' : World} (e : Ext w w') : ∀ {l : List ET}, ET.Rds w l → ET.Rds w' l
  | [], _ => trivial
  | _ :: _, h => ⟨ET.Rd.ext e h.1, ET.Rds.ext e h.2⟩
end
theorem ET.rds_mem {w : World} {x : ET} : ∀ {l : List ET}, x ∈ l → ET.Rds w l → ET.Rd w x
  | [], h, _ => by simp at h
  | y :: r, h, hk => by
    rcases List.mem_cons.1 h with rfl | h
    · exact hk.1
    · exact ET.rds_mem h hk.2
mutual
def ET.ht : ET → Nat
  | .mk _ _ _ _ _ _ _ ks => ET.hts ks + 1
def ET.hts : List ET → Nat
  | [] => 0
  | x :: r => max (ET.ht x) (ET.hts r)
end
theorem ET.ht_mem {x : ET} : ∀ {l : List ET}, x ∈ l → ET.ht x ≤ ET.hts l
  | [], h => by simp at h
  | y :: r, h => by
    simp only [ET.hts]
    rcases List.mem_cons.1 h with rfl | h
    · omega
    · have := ET.ht_mem h; omega
mutual
def SM.Rd (w : World) : SM → Prop
  | .mk _ nm e B _ b E _ f => ET.Rd w e ∧ RdS SM.enc 10 w B b ∧ SM.Rds w b ∧ RdS SM.enc 10 w E f ∧ SM.Rds w f ∧ b.length ≤ 9000000 ∧ f.length ≤ 9000000 ∧ nm.length ≤ 9000000
def SM.Rds (w : World) : List SM → Prop
  | [] => True
  | x :: r => SM.Rd w x ∧ SM.Rds w r
end
mutual
theorem SM.Rd.ext {w w' : World} (e : Ext w w') : ∀ {t : SM}, SM.Rd w t → SM.Rd w' t
  | .mk _ _ _ _ _ _ _ _ _, h => ⟨ET.Rd.ext e h.1, RdS.from e h.2.1, SM.Rds.ext e h.2.2.1, RdS.from e h.2.2.2.1, SM.Rds.ext e h.2.2.2.2.1, h.2.2.2.2.2⟩
theorem SM.Rds.ext {w w' : World} (e : Ext w w') : ∀ {l : List SM}, SM.Rds w l → SM.Rds w' l
  | [], _ => trivial
  | _ :: _, h => ⟨SM.Rd.ext e h.1, SM.Rds.ext e h.2⟩
end
theorem SM.rds_mem {w : World} {x : SM} : ∀ {l : List SM}, x ∈ l → SM.Rds w l → SM.Rd w x
  | [], h, _ => by simp at h
  | y :: r, h, hk => by
    rcases List.mem_cons.1 h with rfl | h
    · exact hk.1
    · exact SM.rds_mem h hk.2
mutual
def SM.ht : SM → Nat
  | .mk _ _ _ _ _ b _ _ f => max (SM.hts b) (SM.hts f) + 1
def SM.hts : List SM → Nat
  | [] => 0
  | x :: r => max (SM.ht x) (SM.hts r)
end
theorem SM.ht_mem {x : SM} : ∀ {l : List SM}, x ∈ l → SM.ht x ≤ SM.hts l
  | [], h => by simp at h
  | y :: r, h => by
    simp only [SM.hts]
    rcases List.mem_cons.1 h with rfl | h
    · omega
    · have := SM.ht_mem h; omega
theorem bs_nil (s : Bs) : (bs s == (⟨#[]⟩ : ByteArray)) = decide (s = []) := by
  rw [show (⟨#[]⟩ : ByteArray) = bs [] from rfl, bs_eq]
theorem opName_c (o : Int) (w : World) (hn : RdS (fun b : Bs => [Value.string (bs b)]) 1 w (some ⟨4, 0, none⟩) opNames) :
    Cl Tryz.prog 116 #[.int .i64 o] w (fun v w' => v = .string (bs (opNm o)) ∧ Ext w w') (fun _ _ => False) := by
  refine calls_ex (args := [.int .i64 o]) T.ok Tryz.func116 rfl rfl rfl rfl ?_
  have H := Hp.begin nw w
  have hop : ∀ w', Cl Tryz.prog 140 #[.int .i64 o] w' (fun v w'' => v = .bool (decide (0 ≤ o ∧ o < 16)) ∧ Ext w' w'') (fun _ _ => False) := fun w' => by
    refine calls_ex (args := [.int .i64 o]) T.ok Tryz.func140 rfl rfl rfl rfl ?_
    have H := Hp.begin nw w'
    repeat' ((conv => whnf); first | refine ztT ?_ | (refine ztB ?_ ?_ <;> intro _ <;> try (exfalso; omega)) | (refine ztA ?_; clear H; intro _ _ H _) | fail)
    all_goals first | (exfalso; omega) | exact ⟨b_eq (by simp; omega), H.e⟩
  repeat' ((conv => whnf); first | refine ztT ?_ | (refine ztB ?_ ?_ <;> intro _ <;> try (exfalso; omega)) | (refine ztA ?_; clear H; intro _ _ H _) | fail)
  (((conv => whnf); refine Cl.mk (hop _) ?_); rintro _ _ ⟨rfl, hx⟩; replace H := H.ext hx; clear hx)
  by_cases h : 0 ≤ o ∧ o < 16
  · obtain ⟨k, rfl⟩ : ∃ k : Nat, o = (k : Int) := ⟨o.toNat, by omega⟩
    have hk : k < 16 := by omega
    obtain ⟨x, hx⟩ : ∃ x, opNames[k]? = some x := ⟨_, List.getElem?_eq_getElem (show k < opNames.length from hk)⟩
    have hlen : opNames.length = 16 := rfl
    rw [decide_eq_true h]
    repeat' ((conv => whnf); first | refine ztT ?_ | (refine ztB ?_ ?_ <;> intro _ <;> try (exfalso; omega)) | (refine ztA ?_; clear H; intro _ _ H _) | fail)
    refine ⟨?_, H.e⟩
    unfold opNm
    rw [if_pos h, Int.toNat_natCast, hx]; rfl
  · rw [decide_eq_false h]
    repeat' ((conv => whnf); first | refine ztT ?_ | (refine ztB ?_ ?_ <;> intro _ <;> try (exfalso; omega)) | (refine ztA ?_; clear H; intro _ _ H _) | fail)
    refine ⟨?_, H.e⟩
    unfold opNm
    rw [if_neg h]; rfl
theorem isZero_c (t : ET) (w : World) : Cl Tryz.prog 94 #[t.v] w (fun v w' => v = .bool (zeroB t.e) ∧ Ext w w') (fun _ _ => False) := by
  obtain ⟨kd, o, n, nm, cb, A, c, ks⟩ := t
  refine calls_ex (args := [.agg #[.int .i64 kd, .int .i64 o, .int .i64 n, .string (bs nm), .string (bs cb), .slice A ks.length c]]) T.ok Tryz.func94 rfl rfl rfl rfl ?_
  have H := Hp.begin nw w
  have hk := ET.es_len ks
  repeat' ((conv => whnf); first | refine ztT ?_ | (refine ztB ?_ ?_ <;> intro _ <;> try (exfalso; omega)) | (refine ztA ?_; clear H; intro _ _ H _) | fail)
  all_goals (refine ⟨b_eq ?_, H.e⟩; first | (simp_all [ET.e, zeroB, bs_nil]; done) | (rw [Bool.eq_iff_iff]; simp_all [ET.e, zeroB, bs_nil]))
theorem exBs_at {l : List ET} {i : Nat} {x : ET} (h : l[i]? = some x) : exBs (ET.es (l.drop i)) = (exB x.e && exBs (ET.es (l.drop (i + 1)))) := by
  obtain ⟨h1, h2⟩ := List.getElem?_eq_some_iff.1 h
  rw [List.drop_eq_getElem_cons h1, h2]; rfl
set_option maxHeartbeats 4000000 in
theorem isExpr_c : ∀ (N : Nat) (t : ET) (w : World), ET.ht t ≤ N → RdK w → RdS (fun b : Bs => [Value.string (bs b)]) 1 w (some ⟨4, 0, none⟩) opNames → ET.Rd w t → Cl Tryz.prog 95 #[t.v] w (fun v w' => v = .bool (exB t.e) ∧ Ext w w') (fun _ _ => False)
  | 0, t, w, hN, _, _, _ => by cases t; simp [ET.ht] at hN
  | N + 1, .mk kd o n nm cb A c ks, w, hN, hK, hO, hR => by
    obtain ⟨hr, hrs, hlen, hnm, hcb, _⟩ := hR
    refine calls_ex (args := [.agg #[.int .i64 kd, .int .i64 o, .int .i64 n, .string (bs nm), .string (bs cb), .slice A ks.length c]]) T.ok Tryz.func95 rfl rfl rfl rfl ?_
    have H := Hp.begin nw w
    have hk := ET.es_len ks
    refine Sq.mk ?_
    ((conv => whnf); refine Al.hp H ?_; clear H; intro p1 _ H _)
    repeat' ((conv => whnf); first | refine ztT ?_ | (refine ztB ?_ ?_ <;> intro _ <;> try (exfalso; omega)) | (refine ztW ?_; clear H; intro _ _ H _) | fail)
    refine Lp.g0 T.ok (σ := Nat) (fun i => [(13, .int .i64 (i : Int)), (12, .int .i64 (ks.length : Int)), (11, .slice A ks.length c), (1, .pointer (some ⟨p1, 0, none⟩))])
      (fun i w' => i ≤ ks.length ∧ exBs (ET.es ks) = exBs (ET.es (ks.drop i)) ∧ Hp nw w w' [bk p1 74 [.int .i64 kd, .int .i64 o, .int .i64 n, .string (bs nm), .string (bs cb), .slice A ks.length c]]) (fun i _ => ks.length - i) 0 rfl ⟨rfl, rfl, rfl, rfl, trivial⟩ ⟨Nat.zero_le _, rfl, H⟩ ?_
    clear H
    rintro i w5 ⟨hi, hall, H⟩
    by_cases hlt : i < ks.length
    · obtain ⟨x, hx⟩ : ∃ x, ks[i]? = some x := ⟨_, List.getElem?_eq_getElem hlt⟩
      have hat := exBs_at hx
      have hr1 := RdS.from H.e hr
      repeat' ((conv => whnf); first | refine ztT ?_ | (refine ztB ?_ ?_ <;> intro _ <;> try (exfalso; omega)) | (refine ztW ?_; clear H; intro _ _ H _) | fail)
      ((conv => whnf); refine Al.hp H ?_; clear H; intro p4 _ H _)
      have hm := List.mem_of_getElem? hx
      have hxh := ET.ht_mem hm
      have hxr := ET.rds_mem hm hrs
      simp only [ET.ht] at hN
      obtain ⟨kx, ox, nx, mx, cx, Ax, cpx, lx⟩ := x
      repeat' ((conv => whnf); first | refine ztT ?_ | (refine ztB ?_ ?_ <;> intro _ <;> try (exfalso; omega)) | (refine ztW ?_; clear H; intro _ _ H _) | fail)
      (((conv => whnf); refine Cl.mk (isExpr_c N (.mk kx ox nx mx cx Ax cpx lx) _ (by omega) (RdS.from H.e hK) (RdS.from H.e hO) (hxr.ext H.e)) ?_); rintro _ _ ⟨rfl, hx⟩; replace H := H.ext hx; clear hx)
      cases hb : exB (ET.e (.mk kx ox nx mx cx Ax cpx lx)) with
      | true =>
        repeat' ((conv => whnf); first | refine ztT ?_ | (refine ztB ?_ ?_ <;> intro _ <;> try (exfalso; omega)) | (refine ztW ?_; clear H; intro _ _ H _) | fail)
        exact ⟨i + 1, ⟨at_int (m := ((i + 1 : Nat) : Int)) rfl (w64 (by simp) (by omega) (by omega)), rfl, rfl, rfl, trivial⟩, rfl, ⟨by omega, by rw [hall, hat, hb, Bool.true_and], H.sel [1] rfl⟩, by omega⟩
      | false =>
        repeat' ((conv => whnf); first | refine ztT ?_ | (refine ztB ?_ ?_ <;> intro _ <;> try (exfalso; omega)) | (refine ztW ?_; clear H; intro _ _ H _) | fail)
        refine ⟨b_eq ?_, H.e⟩
        show false = (exBs (ET.es ks) && _)
        rw [hall, hat, hb]; rfl
    · have hall1 : exBs (ET.es ks) = true := by rw [hall, List.drop_of_length_le (by omega)]; rfl
      have hE : ∀ b, hdB kd o n nm cb ks.length = b → exB (ET.e (.mk kd o n nm cb A c ks)) = b := fun b h => by rw [← h, ← hk]; show (exBs (ET.es ks) && _) = _; rw [hall1, Bool.true_and]
      repeat' ((conv => whnf); first | refine ztT ?_ | (refine ztB ?_ ?_ <;> intro _ <;> try (exfalso; omega)) | (refine ztW ?_; clear H; intro _ _ H _) | fail)
      ((conv => whnf); refine Dr.quiet T.ok mixed (by kernel_rfl) (fun W hW => ?_))
      repeat' ((conv => whnf); first | refine ztQ ?_ | (refine ztB ?_ ?_ <;> intro _ <;> try (exfalso; omega)) | fail)
      (intro _ eT; replace H := H.ext eT; clear hW eT)
      repeat' (first | ((conv => whnf); first | refine ztT ?_ | (refine ztB ?_ ?_ <;> intro _ <;> try (exfalso; omega)) | (refine ztW ?_; clear H; intro _ _ H _) | fail) | (((conv => whnf); refine Cl.mk (isName_c nm _ (RdS.from H.e hK) hnm) ?_); rintro _ _ ⟨rfl, hx⟩; replace H := H.ext hx; clear hx) | (((conv => whnf); refine Cl.mk (isName_c cb _ (RdS.from H.e hK) hcb) ?_); rintro _ _ ⟨rfl, hx⟩; replace H := H.ext hx; clear hx) | (((conv => whnf); refine Cl.mk (opName_c o _ (RdS.from H.e hO)) ?_); rintro _ _ ⟨rfl, hx⟩; replace H := H.ext hx; clear hx))
      all_goals (refine ⟨b_eq (hE _ ?_).symm, H.e⟩; clear hE hall hall1 H hr hrs hK hO; simp_all [hdB, bs_nil] <;> (intros; omega))
end Go.Proofs.YtfnjodpehomgfaaGreatDoor
namespace Go.Proofs.YtfnjodpehomgfaaGreatDoor
open Go Go.Sh Go.Tx
attribute [local irreducible] Blk Ext RdS
theorem stBs_at {l : List SM} {i : Nat} {x : SM} (h : l[i]? = some x) : stBs (SM.es (l.drop i)) = (stB x.e && stBs (SM.es (l.drop (i + 1)))) := by
  obtain ⟨h1, h2⟩ := List.getElem?_eq_some_iff.1 h
  rw [List.drop_eq_getElem_cons h1, h2]; rfl
def IsStmtC (N : Nat) : Prop := ∀ (s : SM) (w : World), SM.ht s ≤ N → RdK w → RdS (fun b : Bs => [Value.string (bs b)]) 1 w (some ⟨4, 0, none⟩) opNames → SM.Rd w s →
  Cl Tryz.prog 71 #[s.v] w (fun v w' => v = .bool (stB s.e) ∧ Ext w w') (fun _ _ => False)
theorem isBody_of {N : Nat} (ih : IsStmtC N) (A : Option Addr) (c : Nat) (l : List SM) (w : World) (hN : SM.hts l ≤ N) (hK : RdK w) (hO : RdS (fun b : Bs => [Value.string (bs b)]) 1 w (some ⟨4, 0, none⟩) opNames) (hr : RdS SM.enc 10 w A l) (hrs : SM.Rds w l) (hlen : l.length ≤ 9000000) :
    Cl Tryz.prog 43 #[.slice A l.length c] w (fun v w' => v = .bool (stBs (SM.es l)) ∧ Ext w w') (fun _ _ => False) := by
  refine calls_ex (args := [.slice A l.length c]) T.ok Tryz.func43 rfl rfl rfl rfl ?_
  have H := Hp.begin nw w
  repeat' ((conv => whnf); first | refine ztT ?_ | (refine ztB ?_ ?_ <;> intro _ <;> try (exfalso; omega)) | (refine ztW ?_; clear H; intro _ _ H _) | fail)
  refine Lp.g0 T.ok (σ := Nat) (fun i => [(7, .int .i64 (i : Int)), (6, .int .i64 (l.length : Int)), (5, .slice A l.length c)])
    (fun i w' => i ≤ l.length ∧ stBs (SM.es l) = stBs (SM.es (l.drop i)) ∧ Hp nw w w' []) (fun i _ => l.length - i) 0 rfl ⟨rfl, rfl, rfl, trivial⟩ ⟨Nat.zero_le _, rfl, H⟩ ?_
  clear H
  rintro i w5 ⟨hi, hall, H⟩
  by_cases hlt : i < l.length
  · obtain ⟨x, hx⟩ : ∃ x, l[i]? = some x := ⟨_, List.getElem?_eq_getElem hlt⟩
    have hat := stBs_at hx
    have hr1 := RdS.from H.e hr
    have hm := List.mem_of_getElem? hx
    have hxh := SM.ht_mem hm
    have hxr := SM.rds_mem hm hrs
    obtain ⟨kd, nm, ⟨kx, ox, nx, mx, cx, Ax, cpx, lx⟩, B, cb, b, E, ce, f⟩ := x
    repeat' ((conv => whnf); first | refine ztT ?_ | (refine ztB ?_ ?_ <;> intro _ <;> try (exfalso; omega)) | (refine ztA ?_; clear H; intro _ _ H _) | fail)
    (((conv => whnf); refine Cl.mk (ih (.mk kd nm (.mk kx ox nx mx cx Ax cpx lx) B cb b E ce f) _ (by omega) (RdS.from H.e hK) (RdS.from H.e hO) (hxr.ext H.e)) ?_); rintro _ _ ⟨rfl, hx⟩; replace H := H.ext hx; clear hx)
    cases hb : stB (SM.e (.mk kd nm (.mk kx ox nx mx cx Ax cpx lx) B cb b E ce f)) with
    | true =>
      repeat' ((conv => whnf); first | refine ztT ?_ | (refine ztB ?_ ?_ <;> intro _ <;> try (exfalso; omega)) | (refine ztW ?_; clear H; intro _ _ H _) | fail)
      exact ⟨i + 1, ⟨at_int (m := ((i + 1 : Nat) : Int)) rfl (w64 (by simp) (by omega) (by omega)), rfl, rfl, trivial⟩, rfl, ⟨by omega, by rw [hall, hat, hb, Bool.true_and], H.sel [] rfl⟩, by omega⟩
    | false =>
      repeat' ((conv => whnf); first | refine ztT ?_ | (refine ztB ?_ ?_ <;> intro _ <;> try (exfalso; omega)) | (refine ztW ?_; clear H; intro _ _ H _) | fail)
      exact ⟨b_eq (by rw [hall, hat, hb]; rfl), H.e⟩
  · repeat' ((conv => whnf); first | refine ztT ?_ | (refine ztB ?_ ?_ <;> intro _ <;> try (exfalso; omega)) | (refine ztW ?_; clear H; intro _ _ H _) | fail)
    exact ⟨b_eq (by rw [hall, List.drop_of_length_le (by omega)]; rfl), H.e⟩
theorem SM.es_nil (l : List SM) : (SM.es l = []) ↔ (l.length = 0) := by cases l <;> simp [SM.es]
theorem len0 {α : Type} (l : List α) : ((l.length : Int) == 0) = decide (l = []) := by
  rw [Bool.eq_iff_iff]; simp
theorem isCall_e (kx ox nx : Int) (mx cx : Bs) (Ax : Option Addr) (cpx : Nat) (lx : List ET) : isCall (ET.e (.mk kx ox nx mx cx Ax cpx lx)) = decide (kx = 5) := rfl
theorem zero_e (kx ox nx : Int) (mx cx : Bs) (Ax : Option Addr) (cpx : Nat) (lx : List ET) (h : kx ≠ 0) : zeroB (ET.e (.mk kx ox nx mx cx Ax cpx lx)) = false := by
  simp [ET.e, zeroB, h]
set_option maxHeartbeats 4000000 in
theorem isStmt_c : ∀ N, IsStmtC N
  | 0, s, w, hN, _, _, _ => by cases s; simp [SM.ht] at hN
  | N + 1, .mk kd nm (.mk kx ox nx mx cx Ax cpx lx) B cb b E ce f, w, hN, hK, hO, hR => by
    obtain ⟨hre, hrb, hrbs, hrf, hrfs, hlb, hlf, hnm⟩ := hR
    simp only [SM.ht] at hN
    have ih := isStmt_c N
    refine calls_ex (args := [.agg #[.int .i64 kd, .string (bs nm), .int .i64 kx, .int .i64 ox, .int .i64 nx, .string (bs mx), .string (bs cx), .slice Ax lx.length cpx, .slice B b.length cb, .slice E f.length ce]]) T.ok Tryz.func71 rfl rfl rfl rfl ?_
    have H := Hp.begin nw w
    have hEb := SM.es_len b
    have hEf := SM.es_len f
    have hic := isCall_e kx ox nx mx cx Ax cpx lx
    have hz0 := zero_e kx ox nx mx cx Ax cpx lx
    repeat' (first | ((conv => whnf); first | refine ztT ?_ | (refine ztB ?_ ?_ <;> intro _ <;> try (exfalso; omega)) | (refine ztA ?_; clear H; intro _ _ H _) | fail) | (((conv => whnf); refine Cl.mk (isZero_c (.mk kx ox nx mx cx Ax cpx lx) _) ?_); rintro _ _ ⟨rfl, hx⟩; replace H := H.ext hx; clear hx) | (((conv => whnf); refine Cl.mk (isName_c nm _ (RdS.from H.e hK) hnm) ?_); rintro _ _ ⟨rfl, hx⟩; replace H := H.ext hx; clear hx) | (((conv => whnf); refine Cl.mk (isExpr_c _ (.mk kx ox nx mx cx Ax cpx lx) _ (Nat.le_refl _) (RdS.from H.e hK) (RdS.from H.e hO) (hre.ext H.e)) ?_); rintro _ _ ⟨rfl, hx⟩; replace H := H.ext hx; clear hx) | (((conv => whnf); refine Cl.mk (isBody_of ih B cb b _ (by omega) (RdS.from H.e hK) (RdS.from H.e hO) (RdS.from H.e hrb) (hrbs.ext H.e) hlb) ?_); rintro _ _ ⟨rfl, hx⟩; replace H := H.ext hx; clear hx) | (((conv => whnf); refine Cl.mk (isBody_of ih E ce f _ (by omega) (RdS.from H.e hK) (RdS.from H.e hO) (RdS.from H.e hrf) (hrfs.ext H.e) hlf) ?_); rintro _ _ ⟨rfl, hx⟩; replace H := H.ext hx; clear hx))
    all_goals (refine ⟨b_eq ?_, H.e⟩; clear H hre hrb hrbs hrf hrfs hK hO ih; (try simp_all [SM.e, stB, bs_nil, SM.es_nil, len0]) <;> (try (intros; omega)))
end Go.Proofs.YtfnjodpehomgfaaGreatDoor
namespace Go.Proofs.YtfnjodpehomgfaaGreatDoor
open Go Go.Sh Go.Tx
abbrev PT : Nat := 92
theorem u_pb : Tryz.prog.underlying 87 = some (.pointer 90) := by kernel_rfl
theorem u_up : Tryz.prog.underlying 104 = some .unsafePointer := by kernel_rfl
set_option maxHeartbeats 1000000 in
set_option maxRecDepth 100000 in
theorem copy_fresh (b : Nat) (w : World) (h0 : w.cell? ⟨b, 0, none⟩ = some (.pointer none)) (hsh : w.shape? b = some (PT, 2)) (hfz : w.frozen? ⟨b, 0, none⟩ = false) :
    Calls Tryz.prog 96 #[.pointer (some ⟨b, 0, none⟩)] w fun e w' => e = .returned (.tuple #[]) ∧ w' = w.setCell ⟨b, 0, none⟩ (.pointer (some ⟨b, 0, none⟩)) := by
  obtain ⟨j, hj, _, hjs, _⟩ := info_of T.ok.1 (t := 90) (i := T.t90) rfl
  go_enter Tryz.func96, Tryz.ntmps96
  go_wp2
  rw [Lib.run_to_unsafe w ⟨b, 0, none⟩ u_pb u_up hj (by rw [hjs]; decide) hsh (Nat.zero_lt_succ 1)]
  simp only [Result.andThen]
  rw [Oper.upon_value]
  go_wp2
  rw [run_callFunc_extern Tryz.func117 (by kernel_rfl) (by kernel_rfl) (by kernel_rfl) (e := Extern.AbiNoEscape.same) (by kernel_rfl)]
  rw [Lib.run_noEscape]
  simp only [Result.andThen]
  rw [Oper.upon_value]
  go_wp2
  rw [Lib.run_from_unsafe w ⟨b, 0, none⟩ u_up u_pb hj hsh (by kernel_rfl)]
  simp only [Result.andThen]
  rw [Oper.upon_value]
  go_wp2
  go_end0
  exact ⟨rfl, rfl⟩
set_option maxHeartbeats 1000000 in
set_option maxRecDepth 100000 in
theorem copy_used (b : Nat) (w : World) (h0 : w.cell? ⟨b, 0, none⟩ = some (.pointer (some ⟨b, 0, none⟩))) :
    Calls Tryz.prog 96 #[.pointer (some ⟨b, 0, none⟩)] w fun e w' => e = .returned (.tuple #[]) ∧ w' = w := by
  obtain ⟨j, hj, _, hjs, _⟩ := info_of T.ok.1 (t := 90) (i := T.t90) rfl
  go_enter Tryz.func96, Tryz.ntmps96
  go_wp2
  rw [Lib.run_neq_ptr_same w _ u_pb hj]
  go_wp2
  go_end0
  exact ⟨rfl, rfl⟩
abbrev byE (c : UInt8) : List Value := [.int .u8 (c.toNat : Int)]
theorem byE_flat (l : Bs) : l.flatMap byE = Lib.byteCells l := by
  induction l with
  | nil => rfl
  | cons c r ih => simp [Lib.byteCells] at ih ⊢; exact ih
theorem strCells_bs (l : Bs) : Lib.strCells (bs l) = l.flatMap byE := by rw [byE_flat]; simp [Lib.strCells, Lib.byteCells, bs]
abbrev ow (A : Option Addr) (c : Nat) (l : Bs) : Ck := ⟨fun k => obk A = some k, fun w => Own byE 1 5 w 0 A c l, true, false⟩
theorem ow_ok {A : Option Addr} {c : Nat} {l : Bs} {w : World} (h : Own byE 1 5 w 0 A c l) : (ow A c l).Ok w := by
  refine ⟨h, fun k hk => (h.obk_lt k hk).1, fun w' _ hb => ?_⟩
  obtain ⟨h1, h2, h3⟩ := h
  refine ⟨h1, h2, ?_⟩
  rcases h3 with h3 | ⟨g, cap, cur, hv, hg, hgb, h4⟩
  · exact .inl h3
  · simp only [Value.slice.injEq] at hv
    obtain ⟨rfl, h5, h6⟩ := hv
    exact .inr ⟨g, cap, cur, by rw [← h6], hg, (hb g rfl).trans hgb, h4⟩
theorem Hp.ow0 {S : Nat → Prop} {w0 w : World} {Γ : List Ck} (H : Hp S w0 w Γ) : Hp S w0 w (ow none 0 [] :: Γ) :=
  H.fr0 (Hp.one (Tch.refl _ _) (ow_ok Own.nil) (fun k hk => by have : none = some k := hk; simp at this)) (.inl rfl)
theorem run_aps {A : Option Addr} {c : Nat} {l s : Bs} {w : World} (h : Own byE 1 5 w 0 A c l) (hlen : l.length + s.length ≤ 140737488355328) :
    ∃ A' c' w', (Builtin.append_ #[88, 9] 88 #[.slice A l.length c, .string (bs s)]).run Tryz.prog w = .ok (.slice A' (l ++ s).length c') w' ∧ Hp (fun k => obk A = some k) w w' [ow A' c' (l ++ s)] := by
  have hsz := bs_size s
  obtain ⟨i, hi, hz, hs1, hby⟩ := info_of T.ok.1 (t := 5) (i := T.t5) rfl
  have ht := (T.ok.1.get (t := 88) (i := T.t88) rfl).1
  have hu := (T.ok.1.get (t := 9) (i := T.t9) rfl).1
  obtain ⟨v', w', hr, hown, hgr, _⟩ := Lib.run_append_own_string (P := Tryz.prog) w 0 88 9 88 5 i ht hu hi hz hs1 hby _ _ _ h.2 (bs s) (by unfold maxLen; omega) (by omega) (Nat.zero_le _)
  have hnew : ∃ A' c', v' = .slice A' (l ++ s).length c' ∧ (obk A' = obk A ∨ ∀ k, obk A' = some k → w.heap.size ≤ k) := by
    rcases h.2.2 with ⟨hv, h0⟩ | ⟨g, cap, cur, hv, _, hg, hnc, hcm, hcs, htk⟩
    · simp only [Value.slice.injEq] at hv
      obtain ⟨rfl, h1, rfl⟩ := hv
      have hl0 : l = [] := List.eq_nil_of_length_eq_zero h0
      subst hl0
      obtain ⟨v2, w2, hr2, hown2, _, _⟩ := Lib.run_append_own_string (P := Tryz.prog) w w.heap.size 88 9 88 5 i ht hu hi hz hs1 hby (.slice none 0 0) 0 [] ⟨rfl, .inl ⟨rfl, rfl⟩⟩ (bs s) (by unfold maxLen; omega) (by omega) (Nat.le_refl _)
      have hr := hr.symm.trans hr2
      simp only [Result.ok.injEq] at hr
      obtain ⟨rfl, rfl⟩ := hr
      rcases hown2.2 with ⟨rfl, h3⟩ | ⟨g, cap, cur, rfl, hg, _⟩
      · exact ⟨none, 0, by simp; omega, .inl rfl⟩
      · exact ⟨some ⟨g, 0, none⟩, cap, by simp [hsz], .inr fun k hk => by simp [obk] at hk; omega⟩
    · simp only [Value.slice.injEq] at hv
      obtain ⟨rfl, _, rfl⟩ := hv
      by_cases hroom : l.length + s.length ≤ c
      · have hr2 := Lib.run_append_room_string (P := Tryz.prog) w 88 9 88 5 i ht hu hi hs1 g l.length c cur hg (bs s) (by omega) (by omega)
        have hr := hr.symm.trans hr2
        simp only [Result.ok.injEq] at hr
        obtain ⟨rfl, rfl⟩ := hr
        exact ⟨some ⟨g, 0, none⟩, c, by simp [hsz], .inl rfl⟩
      · have hb1 : i.bytes = 1 := hby
        have hr2 := Lib.run_append_grow_string (P := Tryz.prog) w 88 9 88 5 i _ ht hu hi hz ⟨g, 0, none⟩ l.length c (l.flatMap byE) (by rw [hs1]; exact h.2.1) (h.2.cells (g := g) rfl) (bs s) (by omega) (by omega) (by rw [hb1]; exact Go.growslice_fits (by omega) (by omega))
        have hr := hr.symm.trans hr2
        simp only [Result.ok.injEq] at hr
        obtain ⟨rfl, rfl⟩ := hr
        exact ⟨some ⟨w.heap.size, 0, none⟩, _, by simp [hsz]; rfl, .inr fun k hk => by simp [obk] at hk; omega⟩
  obtain ⟨A', c', rfl, hA'⟩ := hnew
  refine ⟨A', c', w', hr, Hp.one ?_ (ow_ok ⟨fun x _ => rfl, ?_⟩) fun k hk => ?_⟩
  · rw [obk_eq] at hgr
    exact ⟨hgr.os, hgr.tape, hgr.output, hgr.size, fun k hk hS => hgr.block k hk (fun e => hS e.symm)⟩
  · rw [hsz, strCells_bs, ← List.flatMap_append] at hown
    rw [← List.length_append] at hown
    exact hown
  · have hk : obk A' = some k := hk
    rcases hA' with h1 | h1
    · exact .inl (by rw [← h1]; exact hk)
    · exact .inr (h1 k hk)
set_option maxHeartbeats 1000000 in
set_option maxRecDepth 100000 in
theorem string_x {b g cap : Nat} {x : Value} {l : Bs} {cur : Array Value} {w : World} (hl : l ≠ []) (hb : w.heap[b]? = some (.cells #[x, .slice (some ⟨g, 0, none⟩) l.length cap] PT (0, 0))) (hg : w.heap[g]? = some (.cells cur 5 (0, 0))) (hnc : l.length ≤ cap) (hcm : cap ≤ maxLen) (hcs : cur.size = cap)
    (hcell : ∀ j y, l[j]? = some y → w.cell? ((⟨g, 0, none⟩ : Addr).add j) = some (.int .u8 y.toNat)) :
    Calls Tryz.prog 47 #[.pointer (some ⟨b, 0, none⟩)] w fun e w' => e = .returned (.string (bs l)) ∧ w' = w.drew.freeze ⟨g, 0, none⟩ l.length := by
  have hl0 : l.length ≠ 0 := by simpa using hl
  have c1 : w.drew.cell? ⟨b, 1, none⟩ = some (.slice (some ⟨g, 0, none⟩) l.length cap) := by
    have : w.drew.heap[b]? = some (.cells #[x, .slice (some ⟨g, 0, none⟩) l.length cap] PT (0, 0)) := hb
    rw [Lib.cell_of_heap this]; rfl
  have hSD : (Builtin.unsafeSliceData_ #[88] 131 #[.slice (some ⟨g, 0, none⟩) l.length cap]).run Tryz.prog w.drew = .ok (.pointer (some ⟨g, 0, none⟩)) w.drew :=
    Lib.run_unsafeSliceData_row _ _ _ _ _ _ (by omega)
  have hUS : (Builtin.unsafeString_ #[131, 3] 9 #[.pointer (some ⟨g, 0, none⟩), .int .i64 l.length]).run Tryz.prog w.drew = .ok (.string ⟨l.toArray⟩) (w.drew.freeze ⟨g, 0, none⟩ l.length) :=
    Lib.run_unsafeString_row w.drew 131 3 9 5 (by kernel_rfl) (by kernel_rfl) g cur.size (by have hg' : w.drew.heap[g]? = some (.cells cur 5 (0, 0)) := hg; simp [World.shape?, hg']) l hl (by omega) (by unfold maxLen at hcm; omega) hcell
  have hmx := mixed
  go_enter Tryz.func47, Tryz.ntmps47
  go_wp2
  go_region_o
  all_goals (go_wp2; go_ret; exact ⟨rfl, rfl⟩)
attribute [local irreducible] Blk Ext RdS
abbrev bp (b : Nat) (x : Value) (A : Option Addr) (c n : Nat) : Ck := bk b PT [x, .slice A n c]
def PtrOk (b : Nat) (x : Value) : Prop := x = .pointer none ∨ x = .pointer (some ⟨b, 0, none⟩)
theorem copy_c (b : Nat) (x s : Value) (w : World) (hx : PtrOk b x) (hb : Blk w b PT [x, s]) :
    Cl Tryz.prog 96 #[.pointer (some ⟨b, 0, none⟩)] w (fun v w' => Hp (· = b) w w' [bk b PT [.pointer (some ⟨b, 0, none⟩), s]]) (fun _ _ => False) := by
  have H := Hp.start (S := (· = b)) (bk_ok hb) (fun k hk => hk)
  rcases hx with rfl | rfl
  · refine ⟨Calls.mono (copy_fresh b w (hb.cell 0) ?_ (hb.frozen _ rfl)) ?_⟩
    · unfold Blk at hb
      simp [World.shape?, hb]
    rintro e w' ⟨rfl, rfl⟩
    have hst := St.h (vs := [Value.pointer (some ⟨b, 0, none⟩)]) (o := 0) (k := fun w' => Hp (· = b) w w' [bk b PT [.pointer (some ⟨b, 0, none⟩), s]]) H (fun w' H => H)
    exact hst.out
  · refine ⟨Calls.mono (copy_used b w (hb.cell 0)) ?_⟩
    rintro e w' ⟨rfl, rfl⟩
    exact H
theorem Sm.aps {S : Nat → Prop} {w0 w : World} {Γ L R : List Ck} {A : Option Addr} {c : Nat} {l s : Bs} {k : Value → World → Prop} {Y : List PanicEntry → World → Prop} (H : Hp S w0 w Γ) (u : Sp Γ L (ow A c l) R) (hlen : l.length + s.length ≤ 140737488355328)
    (hk : ∀ A' c' w', Hp S w0 w' (L ++ ow A' c' (l ++ s) :: R) → k (.slice A' (l ++ s).length c') w') : Sm Tryz.prog (Builtin.append_ #[88, 9] 88 #[.slice A l.length c, .string (bs s)]) w k Y := by
  obtain ⟨A', c', w', hr, H'⟩ := run_aps (H.mem (c := ow A c l) (by rw [u.eq]; simp)) hlen
  exact ⟨by rw [hr]; exact hk A' c' w' (H.putS u H' rfl (.inl rfl))⟩
set_option maxHeartbeats 1000000 in
theorem write_c (b : Nat) (x : Value) (A : Option Addr) (c : Nat) (l s : Bs) (w : World) (hx : PtrOk b x) (h : Hp (fun k => k = b ∨ obk A = some k) w w [bp b x A c l.length, ow A c l]) (hlen : l.length + s.length ≤ 140737488355328) :
    Cl Tryz.prog 72 #[.pointer (some ⟨b, 0, none⟩), .string (bs s)] w (fun v w' => ∃ A' c', Hp (fun k => k = b ∨ obk A = some k) w w' [bp b (.pointer (some ⟨b, 0, none⟩)) A' c' (l ++ s).length, ow A' c' (l ++ s)]) (fun _ _ => False) := by
  refine calls_ex (args := [.pointer (some ⟨b, 0, none⟩), .string (bs s)]) T.ok Tryz.func72 rfl rfl rfl rfl ?_
  have H := h
  have hsz := bs_size s
  repeat' ((conv => whnf); first | refine ztT ?_ | (refine ztB ?_ ?_ <;> intro _ <;> try (exfalso; omega)) | (refine ztW ?_; clear H; intro _ _ H _) | fail)
  ((conv => whnf); refine Cl.mk (copy_c b x _ _ hx (H.blk 0 rfl)) ?_)
  rintro _ w2 H'
  replace H := H.updb H'
  clear H'
  repeat' ((conv => whnf); first | refine ztT ?_ | (refine ztB ?_ ?_ <;> intro _ <;> try (exfalso; omega)) | (refine ztW ?_; clear H; intro _ _ H _) | fail)
  refine Sm.aps H (.tail .head) hlen (fun A' c' w3 H => ?_)
  repeat' ((conv => whnf); first | refine ztT ?_ | (refine ztB ?_ ?_ <;> intro _ <;> try (exfalso; omega)) | (refine ztW ?_; clear H; intro _ _ H _) | fail)
  exact ⟨A', c', H⟩
theorem string_c (b : Nat) (x : Value) (A : Option Addr) (c : Nat) (l : Bs) (w : World) (hl : l ≠ []) (hb : Blk w b PT [x, .slice A l.length c]) (ho : Own byE 1 5 w 0 A c l) :
    Cl Tryz.prog 47 #[.pointer (some ⟨b, 0, none⟩)] w (fun v w' => v = .string (bs l) ∧ Hp (fun k => k = b ∨ obk A = some k) w w' []) (fun _ _ => False) := by
  have hl0 : l.length ≠ 0 := by simpa using hl
  rcases ho.2.2 with ⟨hv, h0⟩ | ⟨g, cap, cur, hv, _, hg, hnc, hcm, hcs, htk⟩
  · exact absurd h0 hl0
  simp only [Value.slice.injEq] at hv
  obtain ⟨rfl, _, rfl⟩ := hv
  unfold Blk at hb
  refine ⟨Calls.mono (string_x hl hb hg hnc hcm (by simpa using hcs) fun j y hy => ?_) ?_⟩
  · refine ho.2.cells (g := g) rfl j _ ?_
    rw [byE_flat, Lib.byteCells, List.getElem?_map, hy]; rfl
  rintro e w' ⟨rfl, rfl⟩
  refine ⟨rfl, ⟨?_, by simp, List.Pairwise.nil, by simp⟩⟩
  have hd : Tch (fun k => k = b ∨ obk (some ⟨g, 0, none⟩) = some k) w w.drew := ⟨rfl, rfl, rfl, Nat.le_refl _, fun _ _ _ => rfl⟩
  unfold World.freeze
  split
  · exact hd
  · refine ⟨rfl, rfl, rfl, by simp, fun k hk hS => ?_⟩
    have hkg : g ≠ k := fun e => hS (.inr (by subst e; rfl))
    show (Array.modify _ _ _)[k]? = _
    rw [Array.getElem?_modify, if_neg hkg]
    rfl
end Go.Proofs.YtfnjodpehomgfaaGreatDoor
namespace Go.Proofs.YtfnjodpehomgfaaGreatDoor
open Go Go.Shelf
def str_ren : Go.Shelf.Ren := ⟨fun | 99 => 99 | 105 => 74 | 156 => 45 | 165 => 73 | 166 => 72 | 169 => 47 | 170 => 100 | 206 => 121 | 212 => 98 | 240 => 96 | 241 => 97 | 263 => 119 | 264 => 120 | 276 => 117 | 277 => 118 | n => n, fun | 0 => 0 | 3 => 3 | 4 => 4 | 5 => 5 | 9 => 9 | 20 => 20 | 31 => 31 | 37 => 88 | 46 => 154 | 51 => 167 | 53 => 170 | 70 => 87 | 72 => 90 | 75 => 58 | 76 => 126 | 80 => 96 | 109 => 155 | 127 => 131 | 146 => 168 | 148 => 171 | 164 => 104 | n => n, fun | n => n⟩
theorem rep_lays : Go.Proofs.Lays.n105 Tryz.prog str_ren := {
  mixed := by kernel_rfl,
  f99 := Tryz.func99.trans (congrArg some (by kernel_rfl)),
  f105 := Tryz.func74.trans (congrArg some (by kernel_rfl)),
  f165 := Tryz.func73.trans (congrArg some (by kernel_rfl)),
  f166 := Tryz.func72.trans (congrArg some (by kernel_rfl)),
  f169 := Tryz.func47.trans (congrArg some (by kernel_rfl)),
  f170 := Tryz.func100.trans (congrArg some (by kernel_rfl)),
  f206 := Tryz.func121.trans (congrArg some (by kernel_rfl)),
  f212 := Tryz.func98.trans (congrArg some (by kernel_rfl)),
  f240 := Tryz.func96.trans (congrArg some (by kernel_rfl)),
  f241 := Tryz.func97.trans (congrArg some (by kernel_rfl)),
  f263 := Tryz.func119.trans (congrArg some (by kernel_rfl)),
  f264 := Tryz.func120.trans (congrArg some (by kernel_rfl)),
  f276 := Tryz.func117.trans (congrArg some (by kernel_rfl)),
  f277 := Tryz.func118.trans (congrArg some (by kernel_rfl)),
  t0 := Tryz.underlying0,
  a0 := Tryz.isAgg0,
  z0 := Tryz.sizeOf0,
  v0 := Tryz.zeroValue0,
  t3 := Tryz.underlying3,
  a3 := Tryz.isAgg3,
  z3 := Tryz.sizeOf3,
  v3 := Tryz.zeroValue3,
  t4 := Tryz.underlying4,
  a4 := Tryz.isAgg4,
  z4 := Tryz.sizeOf4,
  v4 := Tryz.zeroValue4,
  t5 := Tryz.underlying5,
  a5 := Tryz.isAgg5,
  z5 := Tryz.sizeOf5,
  v5 := Tryz.zeroValue5,
  t9 := Tryz.underlying9,
  a9 := Tryz.isAgg9,
  z9 := Tryz.sizeOf9,
  v9 := Tryz.zeroValue9,
  t20 := Tryz.underlying20,
  a20 := Tryz.isAgg20,
  z20 := Tryz.sizeOf20,
  v20 := Tryz.zeroValue20,
  t37 := Tryz.underlying88,
  a37 := Tryz.isAgg88,
  z37 := Tryz.sizeOf88,
  v37 := Tryz.zeroValue88,
  t46 := Tryz.underlying154,
  a46 := Tryz.isAgg154,
  z46 := Tryz.sizeOf154,
  v46 := Tryz.zeroValue154,
  t51 := Tryz.underlying167,
  a51 := Tryz.isAgg167,
  z51 := Tryz.sizeOf167,
  v51 := Tryz.zeroValue167,
  t53 := Tryz.underlying170,
  a53 := Tryz.isAgg170,
  z53 := Tryz.sizeOf170,
  v53 := Tryz.zeroValue170,
  t70 := Tryz.underlying87,
  a70 := Tryz.isAgg87,
  z70 := Tryz.sizeOf87,
  v70 := Tryz.zeroValue87,
  t72 := Tryz.underlying90,
  a72 := Tryz.isAgg90,
  z72 := Tryz.sizeOf90,
  v72 := Tryz.zeroValue90,
  t75 := Tryz.underlying58,
  a75 := Tryz.isAgg58,
  z75 := Tryz.sizeOf58,
  v75 := Tryz.zeroValue58,
  t76 := Tryz.underlying126,
  a76 := Tryz.isAgg126,
  z76 := Tryz.sizeOf126,
  v76 := Tryz.zeroValue126,
  t109 := Tryz.underlying155,
  a109 := Tryz.isAgg155,
  z109 := Tryz.sizeOf155,
  v109 := Tryz.zeroValue155,
  t127 := Tryz.underlying131,
  a127 := Tryz.isAgg131,
  z127 := Tryz.sizeOf131,
  v127 := Tryz.zeroValue131,
  t146 := Tryz.underlying168,
  a146 := Tryz.isAgg168,
  z146 := Tryz.sizeOf168,
  v146 := Tryz.zeroValue168,
  t148 := Tryz.underlying171,
  a148 := Tryz.isAgg171,
  z148 := Tryz.sizeOf171,
  v148 := Tryz.zeroValue171,
  t164 := Tryz.underlying104,
  a164 := Tryz.isAgg104,
  z164 := Tryz.sizeOf104,
  v164 := Tryz.zeroValue104 }
theorem join_lays : Go.Proofs.Lays.n156 Tryz.prog str_ren := {
  mixed := by kernel_rfl,
  f156 := Tryz.func45.trans (congrArg some (by kernel_rfl)),
  f165 := Tryz.func73.trans (congrArg some (by kernel_rfl)),
  f166 := Tryz.func72.trans (congrArg some (by kernel_rfl)),
  f169 := Tryz.func47.trans (congrArg some (by kernel_rfl)),
  f240 := Tryz.func96.trans (congrArg some (by kernel_rfl)),
  f241 := Tryz.func97.trans (congrArg some (by kernel_rfl)),
  f276 := Tryz.func117.trans (congrArg some (by kernel_rfl)),
  f277 := Tryz.func118.trans (congrArg some (by kernel_rfl)),
  t0 := Tryz.underlying0,
  a0 := Tryz.isAgg0,
  z0 := Tryz.sizeOf0,
  v0 := Tryz.zeroValue0,
  t3 := Tryz.underlying3,
  a3 := Tryz.isAgg3,
  z3 := Tryz.sizeOf3,
  v3 := Tryz.zeroValue3,
  t4 := Tryz.underlying4,
  a4 := Tryz.isAgg4,
  z4 := Tryz.sizeOf4,
  v4 := Tryz.zeroValue4,
  t9 := Tryz.underlying9,
  a9 := Tryz.isAgg9,
  z9 := Tryz.sizeOf9,
  v9 := Tryz.zeroValue9,
  t20 := Tryz.underlying20,
  a20 := Tryz.isAgg20,
  z20 := Tryz.sizeOf20,
  v20 := Tryz.zeroValue20,
  t31 := Tryz.underlying31,
  a31 := Tryz.isAgg31,
  z31 := Tryz.sizeOf31,
  v31 := Tryz.zeroValue31,
  t37 := Tryz.underlying88,
  a37 := Tryz.isAgg88,
  z37 := Tryz.sizeOf88,
  v37 := Tryz.zeroValue88,
  t70 := Tryz.underlying87,
  a70 := Tryz.isAgg87,
  z70 := Tryz.sizeOf87,
  v70 := Tryz.zeroValue87,
  t72 := Tryz.underlying90,
  a72 := Tryz.isAgg90,
  z72 := Tryz.sizeOf90,
  v72 := Tryz.zeroValue90,
  t75 := Tryz.underlying58,
  a75 := Tryz.isAgg58,
  z75 := Tryz.sizeOf58,
  v75 := Tryz.zeroValue58,
  t76 := Tryz.underlying126,
  a76 := Tryz.isAgg126,
  z76 := Tryz.sizeOf126,
  v76 := Tryz.zeroValue126,
  t127 := Tryz.underlying131,
  a127 := Tryz.isAgg131,
  z127 := Tryz.sizeOf131,
  v127 := Tryz.zeroValue131,
  t164 := Tryz.underlying104,
  a164 := Tryz.isAgg104,
  z164 := Tryz.sizeOf104,
  v164 := Tryz.zeroValue104 }
theorem str_ren_x : Go.Proofs.Builder.Extra Tryz.prog str_ren := {
  sizeBuilder := by kernel_rfl,
  liesBuilder := by kernel_rfl,
  t5 := Tryz.underlying5,
  a5 := Tryz.isAgg5,
  z5 := Tryz.sizeOf5,
  v5 := Tryz.zeroValue5,
  infoByte := by kernel_rfl,
  cellsByte := by kernel_rfl,
  sizeByte := by kernel_rfl,
  neB5 := by decide }
end Go.Proofs.YtfnjodpehomgfaaGreatDoor
namespace Go.Proofs.YtfnjodpehomgfaaGreatDoor
open Go Go.Sh Go.Tx
theorem repL (n : Nat) : Go.Lib.repeatL ([9] : Bs) n = tabs n := by
  induction n with
  | zero => rfl
  | succ n ih => simp [Go.Lib.repeatL, tabs, List.replicate_succ] at ih ⊢; exact ih
theorem repeat_c (n : Nat) (w : World) (h : n ≤ 140737488355328) : Cl Tryz.prog 74 #[.string (bs [9]), .int .i64 (n : Int)] w (fun v w' => v = .string (bs (tabs n)) ∧ Ext w w') (fun _ _ => False) := by
  refine ⟨Calls.mono (Any.strings_Repeat rep_lays str_ren_x (bs [9]) n w (by omega) (by rw [bs_size]; simp; omega)) ?_⟩
  rintro e w' ⟨rfl, hb⟩
  refine ⟨?_, hb⟩
  rw [bs_toList, repL]; rfl
theorem joinL : ∀ l : List Bs, Go.Lib.join l ([44, 32] : Bs) = joinC l
  | [] => rfl
  | [x] => by simp [joinC, Go.Lib.join_one]
  | x :: y :: r => by
    have ih := joinL (y :: r)
    simp [joinC, ← ih, Go.Lib.join]
theorem joins_c (A : Option Addr) (c : Nat) (l : List Bs) (w : World) (hr : RdS strE 1 w A l) (hc : l.length ≤ c) (hl : l.length ≤ 140737488355328) (hj : (joinC l).length ≤ 140737488355328) :
    Cl Tryz.prog 45 #[.slice A l.length c, .string (bs [44, 32])] w (fun v w' => v = .string (bs (joinC l)) ∧ Ext w w') (fun _ _ => False) := by
  by_cases h0 : l = []
  · subst h0
    refine ⟨Calls.mono (Any.strings_Join_none join_lays str_ren_x A c (bs [44, 32]) w) ?_⟩
    rintro e w' ⟨rfl, rfl⟩
    exact ⟨rfl, Ext.refl _⟩
  · obtain ⟨hA, hlt⟩ := hr.some h0
    obtain ⟨⟨b, o, q⟩, rfl⟩ : ∃ a, A = some a := Option.ne_none_iff_exists'.1 hA
    have hq : q = none := by
      obtain ⟨x, hx⟩ : ∃ x, l[0]? = some x := ⟨_, List.getElem?_eq_getElem (List.length_pos_iff.2 h0)⟩
      obtain ⟨vs, h1, h2, h3⟩ := hr.at_ 0 x hx
      unfold Fl at h2
      subst h2
      have h4 := h3 0 _ rfl
      cases q with
      | none => rfl
      | some s =>
        simp only [gA, Nat.zero_mul, Nat.add_zero, Addr.add, if_true, World.cell?] at h4
        split at h4 <;> simp at h4
    subst hq
    have hmap : (l.map bs).map (·.data.toList) = l := by
      rw [List.map_map]
      conv => rhs; rw [← List.map_id l]
      exact List.map_congr_left fun x _ => bs_toList x
    have hs : (bs [44, 32]).data.toList = ([44, 32] : Bs) := bs_toList _
    have hcl := Any.strings_Join join_lays str_ren_x b o c (l.map bs) (bs [44, 32]) w (fun j x hx => by
      rw [List.getElem?_map] at hx
      cases hy : l[j]? with
      | none => rw [hy] at hx; simp at hx
      | some y =>
        rw [hy] at hx
        simp only [Option.map_some, Option.some.injEq] at hx
        subst hx
        obtain ⟨vs, h1, h2, h3⟩ := hr.at_ j y hy
        unfold Fl at h2
        subst h2
        have h4 := h3 0 _ rfl
        simp only [gA, add_lit, Nat.mul_one, Nat.add_zero] at h4
        exact h4) hlt (by simpa using hl) (by simpa using hc) (by rw [hmap, hs, joinL]; exact hj)
    rw [hmap, hs, joinL, List.length_map] at hcl
    refine ⟨Calls.mono hcl ?_⟩
    rintro e w' ⟨rfl, hb⟩
    exact ⟨rfl, hb⟩
attribute [local irreducible] Blk Ext RdS
theorem lvAux_at {s : Bs} {i : Nat} {l : List Bs} (h : levels[i]? = some l) : lvAux s (levels.drop i) i = if l.contains s = true then (s, i) else lvAux s (levels.drop (i + 1)) (i + 1) := by
  obtain ⟨h1, h2⟩ := List.getElem?_eq_some_iff.1 h
  rw [List.drop_eq_getElem_cons h1, h2]; rfl
set_option maxHeartbeats 4000000 in
theorem sign_c (t : ET) (w : World) (hT : Tb w) : Cl Tryz.prog 122 #[t.v] w (fun v w' => v = .tuple #[.string (bs (sgE t.e).1), .int .i64 ((sgE t.e).2 : Int)] ∧ Ext w w') (fun _ _ => False) := by
  obtain ⟨kd, o, n, nm, cb, A, c, ks⟩ := t
  obtain ⟨As, hAl, hR, hE⟩ := hT.lv
  refine calls_ex (args := [.agg #[.int .i64 kd, .int .i64 o, .int .i64 n, .string (bs nm), .string (bs cb), .slice A ks.length c]]) T.ok Tryz.func122 rfl rfl rfl rfl ?_
  have H := Hp.begin nw w
  have e8 : kd = 8 → s_andd = sgS kd o := fun h => by rw [h]; rfl
  have e9 : kd = 9 → s_orr = sgS kd o := fun h => by rw [h]; rfl
  have e4 : kd = 4 → opNm o = sgS kd o := fun h => by rw [h]; rfl
  have e0 : kd ≠ 8 → kd ≠ 9 → kd ≠ 4 → ([] : Bs) = sgS kd o := fun h1 h2 h3 => by unfold sgS; rw [if_neg h1, if_neg h2, if_neg h3]
  refine Sq.mk ?_
  ((conv => whnf); refine Al.hp H ?_; clear H; intro p1 _ H _)
  repeat' (first | ((conv => whnf); first | refine ztT ?_ | (refine ztB ?_ ?_ <;> intro _ <;> try (exfalso; omega)) | (refine ztW ?_; clear H; intro _ _ H _) | fail) | (((conv => whnf); refine Cl.mk (opName_c o _ (RdS.from H.e hT.nm)) ?_); rintro _ _ ⟨rfl, hx⟩; replace H := H.ext hx; clear hx))
  all_goals
    (conv => whnf)
    refine Ld.all (RdS.from H.e hR) ?_ (by rw [List.length_map, List.length_zip, hAl]; rfl)
    repeat' ((conv => whnf); first | refine ztT ?_ | (refine ztB ?_ ?_ <;> intro _ <;> try (exfalso; omega)) | (refine ztW ?_; clear H; intro _ _ H _) | fail)
    refine Lp.g0 T.ok (σ := Nat) (fun i => [(21, .int .i64 (i : Int)), (20, .agg (((As.zip levels).map fun x => (x.1.1, x.2.length, x.1.2)).map fun x => Value.slice x.1 x.2.1 x.2.2).toArray), (4, .string (bs (sgS kd o)))])
      (fun i w' => i ≤ 8 ∧ sgK kd o = lvAux (sgS kd o) (levels.drop i) i ∧ Hp nw w w' []) (fun i _ => 8 - i) 0 rfl ⟨rfl, rfl, at_val rfl (by (first | rw [← e8 (by assumption)] | rw [← e9 (by assumption)] | rw [← e4 (by assumption)] | rw [← e0 (by assumption) (by assumption) (by assumption)]) <;> rfl), trivial⟩ ⟨Nat.zero_le _, rfl, H.sel [] rfl⟩ ?_
    clear H
    rintro i w5 ⟨hi, hall, H⟩
    show _
    by_cases hlt : i < 8
    · obtain ⟨⟨A2, ca⟩, hA⟩ : ∃ x, As[i]? = some x := ⟨_, List.getElem?_eq_getElem (by omega)⟩
      obtain ⟨lv, hl⟩ : ∃ x, levels[i]? = some x := ⟨_, List.getElem?_eq_getElem (show i < levels.length from hlt)⟩
      have hz : (As.zip levels)[i]? = some ((A2, ca), lv) := by rw [List.getElem?_zip_eq_some]; exact ⟨hA, hl⟩
      have hE1 := hE _ (List.mem_of_getElem? hz)
      simp only at hE1
      have hE2 := RdS.from H.e hE1
      have hlv4 : lv.length ≤ 4 := by
        have : ∀ l ∈ levels, l.length ≤ 4 := by decide
        exact this lv (List.mem_of_getElem? hl)
      have hat := lvAux_at (s := sgS kd o) hl
      repeat' ((conv => whnf); first | refine ztT ?_ | (refine ztB ?_ ?_ <;> intro _ <;> try (exfalso; omega)) | (refine ztW ?_; clear H; intro _ _ H _) | fail)
      (conv => whnf)
      refine Sm.arrix T.ok (v := .slice A2 lv.length ca) (by simp [hz]) hlt ?_
      repeat' ((conv => whnf); first | refine ztT ?_ | (refine ztB ?_ ?_ <;> intro _ <;> try (exfalso; omega)) | (refine ztW ?_; clear H; intro _ _ H _) | fail)
      refine Lp.g0 T.ok (σ := Nat) (fun j => [(27, .int .i64 (j : Int)), (26, .int .i64 (lv.length : Int)), (25, .slice A2 lv.length ca), (5, .int .i64 (i : Int)), (21, .int .i64 (i : Int)), (20, .agg (((As.zip levels).map fun x => (x.1.1, x.2.length, x.1.2)).map fun x => Value.slice x.1 x.2.1 x.2.2).toArray), (4, .string (bs (sgS kd o)))])
        (fun j w' => j ≤ lv.length ∧ (lv.take j).contains (sgS kd o) = false ∧ Hp nw w w' []) (fun j _ => lv.length - j) 0 rfl ⟨rfl, rfl, rfl, rfl, rfl, rfl, rfl, trivial⟩ ⟨Nat.zero_le _, rfl, H⟩ ?_
      clear H hE2
      rintro j w6 ⟨hj, hc, H⟩
      have hE2 := RdS.from H.e hE1
      by_cases hjl : j < lv.length
      · obtain ⟨x, hx⟩ : ∃ x, lv[j]? = some x := ⟨_, List.getElem?_eq_getElem hjl⟩
        have hst := contains_step (s := sgS kd o) hx
        repeat' ((conv => whnf); first | refine ztT ?_ | (refine ztB ?_ ?_ <;> intro _ <;> try (exfalso; omega)) | (refine ztW ?_; clear H; intro _ _ H _) | fail)
        · have hb : (bs x == bs (sgS kd o)) = true := by assumption
          rw [bs_eq] at hb
          have hm : sgS kd o ∈ lv := by rw [← of_decide_eq_true hb]; exact List.mem_of_getElem? hx
          repeat' ((conv => whnf); first | refine ztT ?_ | (refine ztB ?_ ?_ <;> intro _ <;> try (exfalso; omega)) | (refine ztW ?_; clear H; intro _ _ H _) | fail)
          refine ⟨?_, H.e⟩
          rw [if_pos (List.contains_iff_mem.2 hm)] at hat
          show _ = Value.tuple #[.string (bs (sgK kd o).1), .int .i64 ((sgK kd o).2 : Int)]
          rw [hall, hat]; rfl
        · have hb : (bs x == bs (sgS kd o)) = false := by assumption
          rw [bs_eq] at hb
          repeat' ((conv => whnf); first | refine ztT ?_ | (refine ztB ?_ ?_ <;> intro _ <;> try (exfalso; omega)) | (refine ztW ?_; clear H; intro _ _ H _) | fail)
          exact ⟨j + 1, ⟨at_int (m := ((j + 1 : Nat) : Int)) rfl (w64 (by simp) (by omega) (by omega)), rfl, rfl, rfl, rfl, rfl, rfl, trivial⟩, rfl, ⟨by omega, by rw [hst, hc, Bool.false_or]; exact beq_eq_false_iff_ne.2 (of_decide_eq_false hb), H⟩, by omega⟩
      · rw [List.take_of_length_le (by omega)] at hc
        rw [hc] at hat
        repeat' ((conv => whnf); first | refine ztT ?_ | (refine ztB ?_ ?_ <;> intro _ <;> try (exfalso; omega)) | (refine ztW ?_; clear H; intro _ _ H _) | fail)
        exact ⟨i + 1, ⟨at_int (m := ((i + 1 : Nat) : Int)) rfl (w64 (by simp) (by omega) (by omega)), rfl, rfl, trivial⟩, rfl, ⟨by omega, by rw [hall, hat]; simp, H⟩, by omega⟩
    · have hi8 : i = 8 := by omega
      subst hi8
      repeat' ((conv => whnf); first | refine ztT ?_ | (refine ztB ?_ ?_ <;> intro _ <;> try (exfalso; omega)) | (refine ztW ?_; clear H; intro _ _ H _) | fail)
      refine ⟨?_, H.e⟩
      show _ = Value.tuple #[.string (bs (sgK kd o).1), .int .i64 ((sgK kd o).2 : Int)]
      rw [hall]; rfl
mutual
theorem ET.Rd.rg {w : World} : ∀ {t : ET}, ET.Rd w t → rgE t.e
  | .mk _ _ _ _ _ _ _ _, h => ⟨h.2.2.2.2.2, ET.Rds.rg h.2.1⟩
theorem ET.Rds.rg {w : World} : ∀ {l : List ET}, ET.Rds w l → rgEs (ET.es l)
  | [], _ => trivial
  | _ :: _, h => ⟨ET.Rd.rg h.1, ET.Rds.rg h.2⟩
end
structure Rp (w : World) : Prop where
  rg : Rg w
  pw : Pow w
theorem Rp.ext {w w' : World} (h : Rp w) (e : Ext w w') : Rp w' := ⟨h.rg.ext e, Pow.ext h.pw e (Pow.lt h.pw)⟩
def ExprC (N : Nat) : Prop := ∀ (t : ET) (w : World), ET.ht t ≤ N → Rp w → ET.Rd w t → exB t.e = true → nE t.e ≤ 2147483648 →
  Cl Tryz.prog 101 #[t.v] w (fun v w' => v = .string (bs (txE t.e)) ∧ Ext w w') (fun _ _ => False)
theorem txEs_es : ∀ l : List ET, txEs (ET.es l) = l.map fun t => txE t.e
  | [] => rfl
  | x :: r => by simp [ET.es, txEs, txEs_es r]
theorem exBs_mem {x : ET} : ∀ {l : List ET}, exBs (ET.es l) = true → x ∈ l → exB x.e = true ∧ nE x.e ≤ nEs (ET.es l)
  | [], _, h => by simp at h
  | y :: r, hb, h => by
    simp only [ET.es, exBs, Bool.and_eq_true] at hb
    simp only [ET.es, nEs]
    rcases List.mem_cons.1 h with rfl | h
    · exact ⟨hb.1, by omega⟩
    · have := exBs_mem hb.2 h
      exact ⟨this.1, by omega⟩
set_option maxHeartbeats 1000000 in
theorem commas_of {N : Nat} (ih : ExprC N) (A : Option Addr) (c : Nat) (ks : List ET) (w : World) (hN : ET.hts ks ≤ N) (hG : Rp w) (hr : RdS ET.enc 6 w A ks) (hrs : ET.Rds w ks) (hlen : ks.length ≤ 9000000) (hb : exBs (ET.es ks) = true) (hn : nEs (ET.es ks) ≤ 2147483648) :
    Cl Tryz.prog 125 #[.slice A ks.length c] w (fun v w' => v = .string (bs (joinC (txEs (ET.es ks)))) ∧ Ext w w') (fun _ _ => False) := by
  refine calls_ex (args := [.slice A ks.length c]) T.ok Tryz.func125 rfl rfl rfl rfl ?_
  have H := Hp.begin nw w
  replace H := Hp.nil H strE 1 9
  repeat' ((conv => whnf); first | refine ztT ?_ | (refine ztB ?_ ?_ <;> intro _ <;> try (exfalso; omega)) | (refine ztW ?_; clear H; intro _ _ H _) | fail)
  rw [txEs_es]
  have hjl := joinC_len (txEs (ET.es ks))
  have htl := txEs_len (ET.es ks) hb hrs.rg
  have hsum : ((txEs (ET.es ks)).map (fun x => x.length + 2)).sum ≤ ((txEs (ET.es ks)).map (fun x => x.length + 4)).sum := by
    clear hjl htl
    induction txEs (ET.es ks) with
    | nil => simp
    | cons x r ih => simp only [List.map_cons, List.sum_cons]; omega
  rw [txEs_es] at hjl htl hsum
  refine Lp.g0 T.ok (σ := Nat × Option Addr × Nat) (fun s => [(8, .int .i64 (s.1 : Int)), (7, .int .i64 (ks.length : Int)), (6, .slice A ks.length c), (3, .slice s.2.1 s.1 s.2.2)])
    (fun s w' => s.1 ≤ ks.length ∧ Hp nw w w' [qu strE 1 9 s.2.1 s.2.2 ((ks.map fun t => txE t.e).take s.1)]) (fun s _ => ks.length - s.1) (0, none, 0) rfl ⟨rfl, rfl, rfl, rfl, trivial⟩ ⟨Nat.zero_le _, H⟩ ?_
  clear H
  rintro ⟨i, P, cp⟩ w5 ⟨hi, H⟩
  replace hi : i ≤ ks.length := hi
  dsimp only at H
  have hil : ((ks.map fun t => txE t.e).take i).length = i := by rw [List.length_take, List.length_map]; omega
  by_cases hlt : i < ks.length
  · obtain ⟨x, hx⟩ : ∃ x, ks[i]? = some x := ⟨_, List.getElem?_eq_getElem hlt⟩
    have hr1 := RdS.from H.e hr
    have hm := List.mem_of_getElem? hx
    have hxh := ET.ht_mem hm
    have hxr := ET.rds_mem hm hrs
    obtain ⟨hxb, hxn⟩ := exBs_mem hb hm
    have htk : (ks.map fun t => txE t.e).take (i + 1) = (ks.map fun t => txE t.e).take i ++ [txE x.e] := by
      rw [List.take_succ_eq_append_getElem (by simpa using hlt)]
      congr 1
      obtain ⟨g1, g2⟩ := List.getElem?_eq_some_iff.1 hx
      simp [g2]
    obtain ⟨kx, ox, nx, mx, cx, Ax, cpx, lx⟩ := x
    repeat' ((conv => whnf); first | refine ztT ?_ | (refine ztB ?_ ?_ <;> intro _ <;> try (exfalso; omega)) | (refine ztA ?_; clear H; intro _ _ H _) | fail)
    (((conv => whnf); refine Cl.mk (ih (.mk kx ox nx mx cx Ax cpx lx) _ (by omega) (hG.ext H.e) (hxr.ext H.e) hxb (by omega)) ?_); rintro _ _ ⟨rfl, hx⟩; replace H := H.ext hx; clear hx)
    repeat' ((conv => whnf); first | refine ztT ?_ | (refine ztB ?_ ?_ <;> intro _ <;> try (exfalso; omega)) | (refine ztW ?_; clear H; intro _ _ H _) | fail)
    refine Sm.lith (cs := strE (txE (ET.e (.mk kx ox nx mx cx Ax cpx lx)))) H T.ok (fun p5 w6 H _ => ?_)
    refine Sm.ap1 (enc := strE) (txE (ET.e (.mk kx ox nx mx cx Ax cpx lx))) H T.ok ?_ ?_ (fun A' c' w7 H => ?_) (hn := hil.symm)
    · show (i + 1) * 16 ≤ _; omega
    · omega
    simp only [List.cons_append, List.nil_append] at H
    repeat' ((conv => whnf); first | refine ztT ?_ | (refine ztB ?_ ?_ <;> intro _ <;> try (exfalso; omega)) | (refine ztW ?_; clear H; intro _ _ H _) | fail)
    refine ⟨(i + 1, A', c'), ⟨at_int (m := ((i + 1 : Nat) : Int)) rfl (w64 (by simp) (by omega) (by omega)), rfl, rfl, rfl, trivial⟩, rfl, ⟨hlt, ?_⟩, (show ks.length - (i + 1) < ks.length - i by omega)⟩
    show Hp nw w _ [qu strE 1 9 A' c' ((ks.map fun t => txE t.e).take (i + 1))]
    rw [htk]
    exact H.sel [1] rfl
  · have hie : i = ks.length := by omega
    subst hie
    rw [List.take_of_length_le (by simp)] at H
    repeat' ((conv => whnf); first | refine ztT ?_ | (refine ztB ?_ ?_ <;> intro _ <;> try (exfalso; omega)) | (refine ztW ?_; clear H; intro _ _ H _) | fail)
    have hle := (H.que 0 rfl).le
    rw [List.length_map] at hle
    have hj := joins_c P cp (ks.map fun t => txE t.e) _ (H.rdq 0 rfl) (by rw [List.length_map]; exact hle) (by rw [List.length_map]; omega) (by omega)
    rw [List.length_map] at hj
    (((conv => whnf); refine Cl.mk (hj) ?_); rintro _ _ ⟨rfl, hx⟩; replace H := H.ext hx; clear hx)
    repeat' ((conv => whnf); first | refine ztT ?_ | (refine ztB ?_ ?_ <;> intro _ <;> try (exfalso; omega)) | (refine ztW ?_; clear H; intro _ _ H _) | fail)
    exact ⟨rfl, H.e⟩
theorem paren_of {N : Nat} (ih : ExprC N) (t : ET) (b : Bool) (w : World) (hN : ET.ht t ≤ N) (hG : Rp w) (hr : ET.Rd w t) (hb : exB t.e = true) (hn : nE t.e ≤ 2147483648) :
    Cl Tryz.prog 123 #[t.v, .bool b] w (fun v w' => v = .string (bs (par b (txE t.e))) ∧ Ext w w') (fun _ _ => False) := by
  obtain ⟨kx, ox, nx, mx, cx, Ax, cpx, lx⟩ := t
  have hl := txE_len _ hb hr.rg
  refine calls_ex (args := [.agg #[.int .i64 kx, .int .i64 ox, .int .i64 nx, .string (bs mx), .string (bs cx), .slice Ax lx.length cpx], .bool b]) T.ok Tryz.func123 rfl rfl rfl rfl ?_
  have H := Hp.begin nw w
  cases b with
  | true =>
    repeat' ((conv => whnf); first | refine ztT ?_ | (refine ztB ?_ ?_ <;> intro _ <;> try (exfalso; omega)) | (refine ztA ?_; clear H; intro _ _ H _) | fail)
    (((conv => whnf); refine Cl.mk (ih (.mk kx ox nx mx cx Ax cpx lx) _ hN (hG.ext H.e) (hr.ext H.e) hb hn) ?_); rintro _ _ ⟨rfl, hx⟩; replace H := H.ext hx; clear hx)
    repeat' ((conv => whnf); first | refine ztT ?_ | (refine ztB ?_ ?_ <;> intro _ <;> try (exfalso; omega)) | (refine ztW ?_; clear H; intro _ _ H _) | fail)
    refine Sm.cat (l := [40]) (by simp; omega) ?_
    repeat' ((conv => whnf); first | refine ztT ?_ | (refine ztB ?_ ?_ <;> intro _ <;> try (exfalso; omega)) | (refine ztW ?_; clear H; intro _ _ H _) | fail)
    refine Sm.cat (m := [41]) (by simp; omega) ?_
    repeat' ((conv => whnf); first | refine ztT ?_ | (refine ztB ?_ ?_ <;> intro _ <;> try (exfalso; omega)) | (refine ztW ?_; clear H; intro _ _ H _) | fail)
    exact ⟨rfl, H.e⟩
  | false =>
    repeat' ((conv => whnf); first | refine ztT ?_ | (refine ztB ?_ ?_ <;> intro _ <;> try (exfalso; omega)) | (refine ztA ?_; clear H; intro _ _ H _) | fail)
    (((conv => whnf); refine Cl.mk (ih (.mk kx ox nx mx cx Ax cpx lx) _ hN (hG.ext H.e) (hr.ext H.e) hb hn) ?_); rintro _ _ ⟨rfl, hx⟩; replace H := H.ext hx; clear hx)
    repeat' ((conv => whnf); first | refine ztT ?_ | (refine ztB ?_ ?_ <;> intro _ <;> try (exfalso; omega)) | (refine ztW ?_; clear H; intro _ _ H _) | fail)
    exact ⟨rfl, H.e⟩
end Go.Proofs.YtfnjodpehomgfaaGreatDoor
namespace Go.Sh
open Go.RowKit
inductive Tr where
  | nil
  | tk (i : Nat) (r : Tr)
  | al (i : Nat) (r : Tr)
  | fk (i j : Nat) (ri rj : Tr)
def trB (ops : Array Oper) : Tr → Nat → Array Bool → Bool
  | .nil, g, listed => decide (g = 0) && (Region.ready .any ops listed).isEmpty
  | .tk i r, g, listed => decide (g ≠ 0) && (Region.ready .any ops listed).contains i && Region.free .any ops listed i && trB ops r (g - 1) (listed.setIfInBounds i true)
  | .al i r, g, listed => decide (g ≠ 0) && decide (Region.ready .any ops listed = [i]) && trB ops r (g - 1) (listed.setIfInBounds i true)
  | .fk i j ri rj, g, listed => decide (g ≠ 0) && decide (Region.ready .any ops listed = [i, j]) && trB ops ri (g - 1) (listed.setIfInBounds i true) && trB ops rj (g - 1) (listed.setIfInBounds j true)
def trAll (ops : Array Oper) (ms : Tr) : Bool := Region.noSelect ops && trB ops ms ops.size (Array.replicate ops.size false)
section
variable (P : Program) (T : Tab) (n : Nat) (W : World → Prop)
def trTk (all : List Oper) (i : Nat) (ih : Fr → World → (Fr → World → Prop) → Prop) (F : Fr) (w : World) (kk : Fr → World → Prop) : Prop :=
  match all[i]? with
  | none => False
  | some o => match dstOk n o.dst with
    | false => False
    | true => match o.guard with
      | none => tkOp P T W (evR o F) o (fun v => ih (F.put o.dst v) w kk)
      | some _ => False
def trAl (all : List Oper) (i : Nat) (ih : Fr → World → (Fr → World → Prop) → Prop) (F : Fr) (w : World) (kk : Fr → World → Prop) : Prop :=
  match all[i]? with
  | none => False
  | some o => match dstOk n o.dst with
    | false => False
    | true => match o.guard with
      | none => exOp P T (evR o F) o w (fun v w' => W w' ∧ ih (F.put o.dst v) w' kk) (fun _ _ => False)
      | some _ => False
def trOps (all : List Oper) (ms : Tr) : Fr → World → (Fr → World → Prop) → Prop :=
  Tr.rec (motive := fun _ => Fr → World → (Fr → World → Prop) → Prop) (fun F w k => k F w)
    (fun i _ ih => trTk P T n W all i ih)
    (fun i _ ih => trAl P T n W all i ih)
    (fun i j _ _ ihi ihj F w k => trAl P T n W all i ihi F w k ∧ trAl P T n W all j ihj F w k) ms
end
section
variable {P : Program} {T : Tab} {n : Nat} {W : World → Prop}
theorem trAl_sound (hT : TabOk P T) {all : List Oper} {i : Nat} {ih : Fr → World → (Fr → World → Prop) → Prop} {F : Fr} {a : Act} {w : World} {kk : Fr → World → Prop} {Q : Exit → Act → World → Prop} {K : Act → World → Prop} (ha : Agr n F a)
    (h : trAl P T n W all i ih F w kk) (hK : ∀ F' a' w', Agr n F' a' → W w' → ih F' w' kk → K a' w') : wpOp P all.toArray Q i (fun a w => W w ∧ K a w) a w := by
  unfold trAl at h
  split at h; · exact h.elim
  rename_i o ho
  split at h; · exact h.elim
  rename_i hd
  split at h
  · rename_i hg
    have ho' : all.toArray[i]? = some o := by simpa using ho
    unfold wpOp
    simp only [ho']
    rw [if_pos (wanted_none hg)]
    exact .inl (exOp_sound hT (fun x v h => ha.ev x v (evR_evF h)) h (fun v w' q => ⟨q.1, hK _ _ _ (ha.put hd v) q.1 q.2⟩) (fun ch w' q => q.elim))
  · exact h.elim
theorem trOps_sound (hT : TabOk P T) (all : List Oper) (hsel : Region.noSelect all.toArray = true) {K : Fr → World → Prop} : ∀ (ms : Tr) (g : Nat) (listed : Array Bool) (F : Fr) (a : Act) (w : World),
    Agr n F a → W w → trB all.toArray ms g listed = true → trOps P T n W all ms F w K → wpAnyH P .any all.toArray (Qn n K) W g listed a w
  | .nil, g, listed, F, a, w, ha, _, hB, h => by
    simp only [trB, Bool.and_eq_true, decide_eq_true_eq] at hB
    obtain ⟨rfl, hB⟩ := hB
    exact ⟨List.isEmpty_iff.1 hB, rfl, F, ha, h⟩
  | .tk i r, g, listed, F, a, w, ha, hw, hB, h => by
    have ih := trOps_sound hT all hsel (K := K) r
    change trTk P T n W all i (trOps P T n W all r) F w K at h
    simp only [trB, Bool.and_eq_true, decide_eq_true_eq] at hB
    obtain ⟨⟨⟨hg0, h1⟩, h2⟩, h3⟩ := hB
    obtain ⟨g, rfl⟩ := Nat.exists_eq_succ_of_ne_zero hg0
    simp only [Nat.succ_eq_add_one, Nat.add_sub_cancel] at h3 ⊢
    unfold trTk at h
    split at h; · exact h.elim
    rename_i o ho
    split at h; · exact h.elim
    rename_i hd
    split at h
    · rename_i hg
      obtain ⟨v, hk, hr⟩ := tkOp_run hT h
      have ho' : all.toArray[i]? = some o := by simpa using ho
      exact wpAnyH_take ho' hsel h2 h1 (fun c a w q => nomatch q.1) (.inl ⟨wanted_none hg, hr a (fun x v h => ha.ev x v (evR_evF h))⟩) hw (ih _ _ _ _ _ (ha.put hd v) hw h3 hk)
    · exact h.elim
  | .al i r, g, listed, F, a, w, ha, hw, hB, h => by
    have ih := trOps_sound hT all hsel (K := K) r
    change trAl P T n W all i (trOps P T n W all r) F w K at h
    simp only [trB, Bool.and_eq_true, decide_eq_true_eq] at hB
    obtain ⟨⟨hg0, h1⟩, h3⟩ := hB
    obtain ⟨g, rfl⟩ := Nat.exists_eq_succ_of_ne_zero hg0
    simp only [Nat.succ_eq_add_one, Nat.add_sub_cancel] at h3 ⊢
    refine ⟨fun e => absurd (e.symm.trans h1) (by simp), fun x hx => ?_⟩
    rw [h1] at hx
    have hxi : x = i := by simpa using hx
    subst hxi
    exact trAl_sound hT ha h fun F' a' w' ha' hw' q => ih _ _ _ _ _ ha' hw' h3 q
  | .fk i j ri rj, g, listed, F, a, w, ha, hw, hB, h => by
    have ihi := trOps_sound hT all hsel (K := K) ri
    have ihj := trOps_sound hT all hsel (K := K) rj
    change trAl P T n W all i (trOps P T n W all ri) F w K ∧ trAl P T n W all j (trOps P T n W all rj) F w K at h
    simp only [trB, Bool.and_eq_true, decide_eq_true_eq] at hB
    obtain ⟨⟨⟨hg0, h1⟩, h3⟩, h4⟩ := hB
    obtain ⟨g, rfl⟩ := Nat.exists_eq_succ_of_ne_zero hg0
    simp only [Nat.succ_eq_add_one, Nat.add_sub_cancel] at h3 h4 ⊢
    refine ⟨fun e => absurd (e.symm.trans h1) (by simp), fun x hx => ?_⟩
    rw [h1] at hx
    rcases List.mem_cons.1 hx with hxi | hx
    · subst hxi
      exact trAl_sound hT ha h.1 fun F' a' w' ha' hw' q => ihi _ _ _ _ _ ha' hw' h3 q
    · have hxj : x = j := by simpa using hx
      subst hxj
      exact trAl_sound hT ha h.2 fun F' a' w' ha' hw' q => ihj _ _ _ _ _ ha' hw' h4 q
theorem Dr.tr (hT : TabOk P T) (hm : P.follows .mixedOrders = true) (ms : Tr) {id : Nat} {ops : Array Oper} {F : Fr} {w : World} {K : Exit → Fr → World → Prop} (hB : trAll ops ms = true)
    (h : ∀ W w1, QW W w Ext → (∀ w', Ext w w' → W w') → Ext w w1 → w1.heap.size = w.heap.size → trOps P T n W ops.toList ms F w1 (fun F w => K .normal F w)) : Dr P n id ops F w K := by
  refine ⟨fun a ha => ?_⟩
  obtain ⟨l⟩ := ops
  simp only [trAll, Bool.and_eq_true] at hB
  have e1 : Ext w { w with drawn := w.drawn + 1 } := ⟨rfl, rfl, rfl, Nat.le_refl _, fun _ _ => rfl⟩
  have H := trOps_sound (W := fun w' => Ext w w') hT l hB.1 ms _ _ F a { w with drawn := w.drawn + 1 } ha e1 hB.2
    (h (fun w' => Ext w w') _ ⟨fun _ q => q, fun a b q r => Ext.trans q r⟩ (fun _ q => q) e1 rfl)
  refine wp_region_any hm ?_
  refine wpAny_monoQ (fun a w q => ?_) (fun c a w q => ?_) (fun a w q => ?_) _ _ _ _ (wpAny_of_held _ _ _ _ H)
  · exact q.2
  · exact nomatch q.1
  · exact nomatch q.1
end
end Go.Sh
namespace Go.Proofs.YtfnjodpehomgfaaGreatDoor
open Go Go.Sh Go.Tx
attribute [local irreducible] Blk Ext RdS
def trl : List Nat → Tr
  | [] => .nil
  | i :: r => if 100 ≤ i then .al (i - 100) (trl r) else .tk i (trl r)
theorem par_big {b : Bool} {t : Bs} {l : Nat} (h : l + t.length ≤ 9223372036854775800) : l + (par b t).length ≤ 9223372036854775807 := by
  have := par_len b t
  omega
theorem es_at {ks : List ET} {i : Nat} {a : ET} (h : ks[i]? = some a) : (ET.es ks).getD i .zero = a.e ∧ (txEs (ET.es ks)).getD i [] = txE a.e := by
  have h1 : ∀ l : List ET, ET.es l = l.map ET.e := fun l => by
    induction l with
    | nil => rfl
    | cons x r ih => simp [ET.es, ih]
  rw [txEs_es, h1, List.getD_eq_getElem?_getD, List.getD_eq_getElem?_getD, List.getElem?_map, List.getElem?_map, h]
  exact ⟨rfl, rfl⟩
set_option maxHeartbeats 4000000 in
theorem wexpr_c : ∀ N, ExprC N
  | 0, t, w, hN, _, _, _, _ => by cases t; simp [ET.ht] at hN
  | N + 1, .mk kd o n nm cb A c ks, w, hN, hG, hR, hb, hn => by
    have ih := wexpr_c N
    have hlen := txE_len _ hb hR.rg
    have hT := hG.rg.tb
    obtain ⟨hr, hrs, hkl, hnm, hcb, hn0, hn1⟩ := hR
    simp only [ET.ht] at hN
    have hes := ET.es_len ks
    have hbk : exBs (ET.es ks) = true ∧ hdB kd o n nm cb ks.length = true := by
      have : (exBs (ET.es ks) && hdB kd o n nm cb (ET.es ks).length) = true := hb
      rw [hes] at this
      simpa using this
    have hnk : nEs (ET.es ks) + 1 ≤ 2147483648 := hn
    obtain ⟨hbs, hhd⟩ := hbk
    have hkid : ∀ i x, ks[i]? = some x → ET.ht x ≤ N ∧ ET.Rd w x ∧ exB x.e = true ∧ nE x.e ≤ 2147483648 ∧ (txE x.e).length ≤ 171798691840 := fun i x hx => by
      have hm := List.mem_of_getElem? hx
      have h1 := ET.ht_mem hm
      have h2 := ET.rds_mem hm hrs
      obtain ⟨h3, h4⟩ := exBs_mem hbs hm
      have h5 := txE_len _ h3 h2.rg
      exact ⟨by omega, h2, h3, by omega, by omega⟩
    obtain ⟨s, lv, hsk⟩ : ∃ s lv, sgK kd o = (s, lv) := ⟨_, _, rfl⟩
    have hsg : ∀ w', Ext w w' → Cl Tryz.prog 122 #[.agg #[.int .i64 kd, .int .i64 o, .int .i64 n, .string (bs nm), .string (bs cb), .slice A ks.length c]] w' (fun v w'' => v = .tuple #[.string (bs s), .int .i64 (lv : Int)] ∧ Ext w' w'') (fun _ _ => False) := fun w' e => by
      have := sign_c (.mk kd o n nm cb A c ks) w' (hT.ext e)
      rw [show sgE (ET.e (.mk kd o n nm cb A c ks)) = (s, lv) from hsk] at this
      exact this
    have hx : txE (ET.e (.mk kd o n nm cb A c ks)) = txN kd o n nm cb (ET.es ks) (txEs (ET.es ks)) := rfl
    have hsl := sgK_len kd o
    have hol := opNm_len o
    rw [hsk] at hsl
    rw [hx] at hlen
    have hlen2 : (txN kd o n nm cb (ET.es ks) (txEs (ET.es ks))).length ≤ 171798691840 := by omega
    clear hlen hx
    have hgoal : ∀ v : Value, v = .string (bs (txN kd o n nm cb (ET.es ks) (txEs (ET.es ks)))) → v = .string (bs (txE (ET.e (.mk kd o n nm cb A c ks)))) := fun v h => h
    refine calls_ex (args := [.agg #[.int .i64 kd, .int .i64 o, .int .i64 n, .string (bs nm), .string (bs cb), .slice A ks.length c]]) T.ok Tryz.func101 rfl rfl rfl rfl ?_
    have H := Hp.begin nw w
    refine Sq.mk ?_
    ((conv => whnf); refine Al.hp H ?_; clear H; intro p1 _ H _)
    repeat' ((conv => whnf); first | refine ztT ?_ | (refine ztB ?_ ?_ <;> intro _ <;> try (exfalso; omega)) | (refine ztW ?_; clear H; intro _ _ H _) | fail)
    (((conv => whnf); refine Cl.mk (hsg _ H.e) ?_); rintro _ _ ⟨rfl, hx⟩; replace H := H.ext hx; clear hx)
    by_cases hs0 : s = []
    case neg =>
      have hne : (sgK kd o).1 ≠ [] := by rw [hsk]; exact hs0
      have h2 := kids_two hhd hne
      obtain ⟨a, ha⟩ : ∃ x, ks[0]? = some x := ⟨_, List.getElem?_eq_getElem (by omega)⟩
      obtain ⟨b, hb2⟩ : ∃ x, ks[1]? = some x := ⟨_, List.getElem?_eq_getElem (by omega)⟩
      obtain ⟨a1, a2, a3, a4, a5⟩ := hkid 0 a ha
      obtain ⟨b1, b2, b3, b4, b5⟩ := hkid 1 b hb2
      obtain ⟨ga1, ga2⟩ := es_at ha
      obtain ⟨gb1, gb2⟩ := es_at hb2
      have htx : txN kd o n nm cb (ET.es ks) (txEs (ET.es ks)) = par (decide ((sgE a.e).2 < lv)) (txE a.e) ++ (32 :: (s ++ 32 :: par (decide ((sgE b.e).2 ≤ lv)) (txE b.e))) := by
        unfold txN
        rw [if_pos hne, hsk, ga1, ga2, gb1, gb2]
      rw [htx] at hgoal hlen2
      simp only [List.length_append, List.length_cons] at hlen2
      have hr1 := RdS.from H.e hr
      repeat' ((conv => whnf); first | refine ztT ?_ | (refine ztB ?_ ?_ <;> intro _ <;> try (exfalso; omega)) | (refine ztW ?_; clear H; intro _ _ H _) | fail)
      (((conv => whnf); refine Cl.mk (sign_c a _ (hT.ext H.e)) ?_); rintro _ _ ⟨rfl, hx⟩; replace H := H.ext hx; clear hx)
      have hr2 := RdS.from H.e hr
      repeat' ((conv => whnf); first | refine ztT ?_ | (refine ztB ?_ ?_ <;> intro _ <;> try (exfalso; omega)) | (refine ztW ?_; clear H; intro _ _ H _) | fail)
      (((conv => whnf); refine Cl.mk (sign_c b _ (hT.ext H.e)) ?_); rintro _ _ ⟨rfl, hx⟩; replace H := H.ext hx; clear hx)
      repeat' ((conv => whnf); first | refine ztT ?_ | (refine ztB ?_ ?_ <;> intro _ <;> try (exfalso; omega)) | (refine ztW ?_; clear H; intro _ _ H _) | fail)
      (conv => whnf)
      refine Dr.tr T.ok mixed (trl [0, 1, 2, 3, 4, 5, 6, 9, 12, 13, 14, 15, 16, 17, 18, 107, 8, 10, 11, 119, 20, 21]) (by kernel_rfl) (fun W w1 hW hmk eT _ => ?_)
      have hr3 := RdS.from H.e hr
      repeat' (first | ((conv => whnf); first | refine ztQ ?_ | (refine ztB ?_ ?_ <;> intro _ <;> try (exfalso; omega)) | fail) | ((conv => whnf); refine QSm.mk hW (fun w' _ => run_cat (by simp; omega) w') ?_))
      have hd1 : decide (((sgE a.e).2 : Int) < (lv : Int)) = decide ((sgE a.e).2 < lv) := by simp
      have hd2 : decide (((sgE b.e).2 : Int) ≤ (lv : Int)) = decide ((sgE b.e).2 ≤ lv) := by simp
      replace H := H.ext eT
      ((conv => whnf); refine Cl.mk (paren_of ih a _ _ a1 (hG.ext H.e) (a2.ext H.e) a3 a4) ?_)
      rintro _ w2 ⟨rfl, ex⟩
      replace H := H.ext ex
      refine ⟨hmk _ (Ext.trans eT ex), ?_⟩
      rw [hd1]
      repeat' (first | ((conv => whnf); first | refine ztQ ?_ | (refine ztB ?_ ?_ <;> intro _ <;> try (exfalso; omega)) | fail) | ((conv => whnf); refine QSm.mk hW (fun w' _ => run_cat (by simp; omega) w') ?_))
      ((conv => whnf); refine Cl.mk (paren_of ih b _ _ b1 (hG.ext H.e) (b2.ext H.e) b3 b4) ?_)
      rintro _ w3 ⟨rfl, ex2⟩
      replace H := H.ext ex2
      refine ⟨hmk _ (Ext.trans (Ext.trans eT ex) ex2), ?_⟩
      rw [hd2]
      repeat' (first | ((conv => whnf); first | refine ztQ ?_ | (refine ztB ?_ ?_ <;> intro _ <;> try (exfalso; omega)) | fail) | ((conv => whnf); refine QSm.mk hW (fun w' _ => run_cat (by simp; omega) w') ?_))
      repeat' ((conv => whnf); first | refine ztT ?_ | (refine ztB ?_ ?_ <;> intro _ <;> try (exfalso; omega)) | (refine ztW ?_; clear H; intro _ _ H _) | fail)
      refine ⟨hgoal _ ?_, H.e⟩
      simp only [List.append_assoc, List.cons_append, List.nil_append]
      rfl
    · subst hs0
      have hne : ¬ (sgK kd o).1 ≠ [] := by rw [hsk]; simp
      have hk8 : kd ≠ 8 := fun h => hne (by rw [h]; exact (show (sgn2 s_andd).1 ≠ [] from by decide))
      have hk9 : kd ≠ 9 := fun h => hne (by rw [h]; exact (show (sgn2 s_orr).1 ≠ [] from by decide))
      have hcm : ∀ w', Ext w w' → Cl Tryz.prog 125 #[.slice A ks.length c] w' (fun v w'' => v = .string (bs (joinC (txEs (ET.es ks)))) ∧ Ext w' w'') (fun _ _ => False) := fun w' e => commas_of ih A c ks w' (by omega) (hG.ext e) (RdS.from e hr) (hrs.ext e) hkl hbs (by omega)
      unfold txN at hgoal hlen2
      rw [if_neg hne] at hgoal hlen2
      by_cases k0 : kd = 0
      · rw [if_pos k0] at hgoal
        repeat' ((conv => whnf); first | refine ztT ?_ | (refine ztB ?_ ?_ <;> intro _ <;> try (exfalso; omega)) | (refine ztW ?_; clear H; intro _ _ H _) | fail)
        all_goals first | (exfalso; omega) | skip
        (((conv => whnf); refine Cl.mk (format_c n _ hn0 hn1 (hG.ext H.e).pw) ?_); rintro _ _ ⟨rfl, hx⟩; replace H := H.ext hx; clear hx)
        repeat' ((conv => whnf); first | refine ztT ?_ | (refine ztB ?_ ?_ <;> intro _ <;> try (exfalso; omega)) | (refine ztW ?_; clear H; intro _ _ H _) | fail)
        exact ⟨hgoal _ rfl, H.e⟩
      rw [if_neg k0] at hgoal hlen2
      by_cases k1 : kd = 1
      · rw [if_pos k1] at hgoal
        repeat' ((conv => whnf); first | refine ztT ?_ | (refine ztB ?_ ?_ <;> intro _ <;> try (exfalso; omega)) | (refine ztW ?_; clear H; intro _ _ H _) | fail)
        all_goals first | (exfalso; omega) | skip
        exact ⟨hgoal _ rfl, H.e⟩
      rw [if_neg k1] at hgoal hlen2
      by_cases k2 : kd = 2
      · rw [if_pos k2] at hgoal
        have hm : ks.length = 1 := by simp [hdB, k2] at hhd; exact hhd.1.1.1.1
        obtain ⟨a, ha⟩ : ∃ x, ks[0]? = some x := ⟨_, List.getElem?_eq_getElem (by omega)⟩
        obtain ⟨a1, a2, a3, a4, a5⟩ := hkid 0 a ha
        obtain ⟨ga1, ga2⟩ := es_at ha
        rw [ga1, ga2] at hgoal
        obtain ⟨kx, ox, nx, mx, cx, Ax, cpx, lx⟩ := a
        have hr1 := RdS.from H.e hr
        repeat' ((conv => whnf); first | refine ztT ?_ | (refine ztB ?_ ?_ <;> intro _ <;> try (exfalso; omega)) | (refine ztW ?_; clear H; intro _ _ H _) | fail)
        all_goals first | (exfalso; omega) | skip
        ((conv => whnf); refine Al.hp H ?_; clear H; intro p9 _ H _)
        repeat' ((conv => whnf); first | refine ztT ?_ | (refine ztB ?_ ?_ <;> intro _ <;> try (exfalso; omega)) | (refine ztW ?_; clear H; intro _ _ H _) | fail)
        (((conv => whnf); refine Cl.mk (sign_c (.mk kx ox nx mx cx Ax cpx lx) _ (hT.ext H.e)) ?_); rintro _ _ ⟨rfl, hx⟩; replace H := H.ext hx; clear hx)
        repeat' (first | ((conv => whnf); first | refine ztT ?_ | (refine ztB ?_ ?_ <;> intro _ <;> try (exfalso; omega)) | (refine ztW ?_; clear H; intro _ _ H _) | fail) | (((conv => whnf); refine Cl.mk (paren_of ih (.mk kx ox nx mx cx Ax cpx lx) _ _ a1 (hG.ext H.e) (a2.ext H.e) a3 a4) ?_); rintro _ _ ⟨rfl, hx⟩; replace H := H.ext hx; clear hx) | ((conv => whnf); refine Sm.cat (l := [45]) (par_big (by simp; omega)) ?_))
        all_goals (refine ⟨hgoal _ (congrArg (fun b => Value.string (bs (45 :: par b (txE (ET.e (.mk kx ox nx mx cx Ax cpx lx)))))) ?_), H.e⟩; clear hgoal hkid ih hcm H hG hT hsg; simp_all [posB, ET.e, bs_nil])
      rw [if_neg k2] at hgoal hlen2
      by_cases k3 : kd = 3
      · rw [if_pos k3] at hgoal
        have hm : ks.length = 1 := by simp [hdB, k3] at hhd; exact hhd.1.1.1.1
        obtain ⟨a, ha⟩ : ∃ x, ks[0]? = some x := ⟨_, List.getElem?_eq_getElem (by omega)⟩
        obtain ⟨a1, a2, a3, a4, a5⟩ := hkid 0 a ha
        obtain ⟨ga1, ga2⟩ := es_at ha
        rw [ga1, ga2] at hgoal
        have hr1 := RdS.from H.e hr
        repeat' ((conv => whnf); first | refine ztT ?_ | (refine ztB ?_ ?_ <;> intro _ <;> try (exfalso; omega)) | (refine ztW ?_; clear H; intro _ _ H _) | fail)
        all_goals first | (exfalso; omega) | skip
        (((conv => whnf); refine Cl.mk (sign_c a _ (hT.ext H.e)) ?_); rintro _ _ ⟨rfl, hx⟩; replace H := H.ext hx; clear hx)
        have hr2 := RdS.from H.e hr
        repeat' (first | ((conv => whnf); first | refine ztT ?_ | (refine ztB ?_ ?_ <;> intro _ <;> try (exfalso; omega)) | (refine ztW ?_; clear H; intro _ _ H _) | fail) | (((conv => whnf); refine Cl.mk (paren_of ih a _ _ a1 (hG.ext H.e) (a2.ext H.e) a3 a4) ?_); rintro _ _ ⟨rfl, hx⟩; replace H := H.ext hx; clear hx) | ((conv => whnf); refine Sm.cat (l := [33]) (par_big (by simp; omega)) ?_))
        all_goals (refine ⟨hgoal _ (congrArg (fun b => Value.string (bs (33 :: par b (txE a.e)))) ?_), H.e⟩; simp [bs_nil])
      rw [if_neg k3] at hgoal hlen2
      by_cases k4 : kd = 4
      · rw [if_pos k4] at hgoal hlen2
        simp only [List.length_append, List.length_cons, List.length_nil] at hlen2
        repeat' ((conv => whnf); first | refine ztT ?_ | (refine ztB ?_ ?_ <;> intro _ <;> try (exfalso; omega)) | (refine ztW ?_; clear H; intro _ _ H _) | fail)
        all_goals first | (exfalso; omega) | skip
        (conv => whnf)
        refine Dr.tr T.ok mixed (trl [0, 1, 4, 5, 102, 3, 106, 7, 8, 9]) (by kernel_rfl) (fun W w1 hW hmk eT _ => ?_)
        repeat' (first | ((conv => whnf); first | refine ztQ ?_ | (refine ztB ?_ ?_ <;> intro _ <;> try (exfalso; omega)) | fail) | ((conv => whnf); refine QSm.mk hW (fun w' _ => run_cat (by simp; omega) w') ?_))
        replace H := H.ext eT
        ((conv => whnf); refine Cl.mk (opName_c o _ (RdS.from H.e hT.nm)) ?_)
        rintro _ w2 ⟨rfl, ex⟩
        replace H := H.ext ex
        refine ⟨hmk _ (Ext.trans eT ex), ?_⟩
        repeat' (first | ((conv => whnf); first | refine ztQ ?_ | (refine ztB ?_ ?_ <;> intro _ <;> try (exfalso; omega)) | fail) | ((conv => whnf); refine QSm.mk hW (fun w' _ => run_cat (by simp; omega) w') ?_))
        ((conv => whnf); refine Cl.mk (hcm _ H.e) ?_)
        rintro _ w3 ⟨rfl, ex2⟩
        replace H := H.ext ex2
        refine ⟨hmk _ (Ext.trans (Ext.trans eT ex) ex2), ?_⟩
        repeat' (first | ((conv => whnf); first | refine ztQ ?_ | (refine ztB ?_ ?_ <;> intro _ <;> try (exfalso; omega)) | fail) | ((conv => whnf); refine QSm.mk hW (fun w' _ => run_cat (by simp; omega) w') ?_))
        repeat' ((conv => whnf); first | refine ztT ?_ | (refine ztB ?_ ?_ <;> intro _ <;> try (exfalso; omega)) | (refine ztW ?_; clear H; intro _ _ H _) | fail)
        refine ⟨hgoal _ ?_, H.e⟩
        simp only [List.append_assoc, List.cons_append, List.nil_append]
        rfl
      rw [if_neg k4] at hgoal hlen2
      by_cases k5 : kd = 5
      · rw [if_pos k5] at hgoal hlen2
        simp only [List.length_append, List.length_cons, List.length_nil] at hlen2
        repeat' ((conv => whnf); first | refine ztT ?_ | (refine ztB ?_ ?_ <;> intro _ <;> try (exfalso; omega)) | (refine ztW ?_; clear H; intro _ _ H _) | fail)
        all_goals first | (exfalso; omega) | skip
        (conv => whnf)
        refine Dr.tr T.ok mixed (trl [0, 1, 2, 3, 4, 105, 6, 7, 8]) (by kernel_rfl) (fun W w1 hW hmk eT _ => ?_)
        repeat' (first | ((conv => whnf); first | refine ztQ ?_ | (refine ztB ?_ ?_ <;> intro _ <;> try (exfalso; omega)) | fail) | ((conv => whnf); refine QSm.mk hW (fun w' _ => run_cat (by simp; omega) w') ?_))
        replace H := H.ext eT
        ((conv => whnf); refine Cl.mk (hcm _ H.e) ?_)
        rintro _ w2 ⟨rfl, ex2⟩
        replace H := H.ext ex2
        refine ⟨hmk _ (Ext.trans eT ex2), ?_⟩
        repeat' (first | ((conv => whnf); first | refine ztQ ?_ | (refine ztB ?_ ?_ <;> intro _ <;> try (exfalso; omega)) | fail) | ((conv => whnf); refine QSm.mk hW (fun w' _ => run_cat (by simp; omega) w') ?_))
        repeat' ((conv => whnf); first | refine ztT ?_ | (refine ztB ?_ ?_ <;> intro _ <;> try (exfalso; omega)) | (refine ztW ?_; clear H; intro _ _ H _) | fail)
        refine ⟨hgoal _ ?_, H.e⟩
        simp only [List.append_assoc, List.cons_append, List.nil_append]
        rfl
      rw [if_neg k5] at hgoal hlen2
      by_cases k6 : kd = 6
      · rw [if_pos k6] at hgoal hlen2
        simp only [List.length_append, List.length_cons, List.length_nil] at hlen2
        repeat' ((conv => whnf); first | refine ztT ?_ | (refine ztB ?_ ?_ <;> intro _ <;> try (exfalso; omega)) | (refine ztW ?_; clear H; intro _ _ H _) | fail)
        all_goals first | (exfalso; omega) | skip
        (conv => whnf)
        refine Dr.tr T.ok mixed (trl [0, 1, 2, 3, 4, 5, 6, 7, 8, 9, 110, 11, 12, 13]) (by kernel_rfl) (fun W w1 hW hmk eT _ => ?_)
        repeat' (first | ((conv => whnf); first | refine ztQ ?_ | (refine ztB ?_ ?_ <;> intro _ <;> try (exfalso; omega)) | fail) | ((conv => whnf); refine QSm.mk hW (fun w' _ => run_cat (by simp; omega) w') ?_))
        replace H := H.ext eT
        ((conv => whnf); refine Cl.mk (hcm _ H.e) ?_)
        rintro _ w2 ⟨rfl, ex2⟩
        replace H := H.ext ex2
        refine ⟨hmk _ (Ext.trans eT ex2), ?_⟩
        repeat' (first | ((conv => whnf); first | refine ztQ ?_ | (refine ztB ?_ ?_ <;> intro _ <;> try (exfalso; omega)) | fail) | ((conv => whnf); refine QSm.mk hW (fun w' _ => run_cat (by simp; omega) w') ?_))
        repeat' ((conv => whnf); first | refine ztT ?_ | (refine ztB ?_ ?_ <;> intro _ <;> try (exfalso; omega)) | (refine ztW ?_; clear H; intro _ _ H _) | fail)
        refine ⟨hgoal _ ?_, H.e⟩
        simp only [List.append_assoc, List.cons_append, List.nil_append]
        rfl
      rw [if_neg k6] at hgoal hlen2
      simp only [List.length_append, List.length_cons, List.length_nil] at hlen2
      repeat' ((conv => whnf); first | refine ztT ?_ | (refine ztB ?_ ?_ <;> intro _ <;> try (exfalso; omega)) | (refine ztW ?_; clear H; intro _ _ H _) | fail)
      all_goals first | (exfalso; omega) | skip
      (conv => whnf)
      refine Dr.tr T.ok mixed (trl [0, 1, 2, 3, 4, 5, 106, 7, 8, 9]) (by kernel_rfl) (fun W w1 hW hmk eT _ => ?_)
      repeat' (first | ((conv => whnf); first | refine ztQ ?_ | (refine ztB ?_ ?_ <;> intro _ <;> try (exfalso; omega)) | fail) | ((conv => whnf); refine QSm.mk hW (fun w' _ => run_cat (by simp; omega) w') ?_))
      replace H := H.ext eT
      ((conv => whnf); refine Cl.mk (hcm _ H.e) ?_)
      rintro _ w2 ⟨rfl, ex2⟩
      replace H := H.ext ex2
      refine ⟨hmk _ (Ext.trans eT ex2), ?_⟩
      repeat' (first | ((conv => whnf); first | refine ztQ ?_ | (refine ztB ?_ ?_ <;> intro _ <;> try (exfalso; omega)) | fail) | ((conv => whnf); refine QSm.mk hW (fun w' _ => run_cat (by simp; omega) w') ?_))
      repeat' ((conv => whnf); first | refine ztT ?_ | (refine ztB ?_ ?_ <;> intro _ <;> try (exfalso; omega)) | (refine ztW ?_; clear H; intro _ _ H _) | fail)
      refine ⟨hgoal _ ?_, H.e⟩
      simp only [List.append_assoc, List.cons_append, List.nil_append]
      rfl
end Go.Proofs.YtfnjodpehomgfaaGreatDoor
namespace Go.Proofs.YtfnjodpehomgfaaGreatDoor
open Go Go.Sh Go.Tx
attribute [local irreducible] Blk Ext RdS
abbrev pr (b : Nat) (A : Option Addr) (c : Nat) (l : Bs) : Ck := ⟨fun k => k = b ∨ obk A = some k, fun w => ∃ x, PtrOk b x ∧ Blk w b PT [x, .slice A l.length c] ∧ Own byE 1 5 w 0 A c l ∧ obk A ≠ some b, true, false⟩
theorem pr_ok {b c : Nat} {A : Option Addr} {l : Bs} {x : Value} {w : World} (hx : PtrOk b x) (hb : Blk w b PT [x, .slice A l.length c]) (ho : Own byE 1 5 w 0 A c l) (hne : obk A ≠ some b) : (pr b A c l).Ok w :=
  ⟨⟨x, hx, hb, ho, hne⟩, fun k hk => by
    rcases hk with rfl | hk
    · exact hb.lt
    · exact (ow_ok ho).lt k hk, fun w' hs hk => ⟨x, hx, (hk b (.inl rfl)).trans (show w.heap[b]? = _ from by unfold Blk at hb; exact hb) |> fun h => (by unfold Blk; exact h), (ow_ok ho).loc w' hs fun k h => hk k (.inr h), hne⟩⟩
theorem Hp.prN {S : Nat → Prop} {w0 w : World} {Γ : List Ck} {b c : Nat} {A : Option Addr} {l : Bs} {x : Value} (hx : PtrOk b x) (H : Hp S w0 w (bp b x A c l.length :: ow A c l :: Γ)) : Hp S w0 w (pr b A c l :: Γ) :=
  Hp.join2 H rfl rfl (.inl rfl) (fun k hk => hk) (fun hd h1 h2 => pr_ok hx h1.holds h2.holds fun e => hd b ⟨rfl, e⟩)
theorem pr_open {b c : Nat} {A : Option Addr} {l : Bs} {w : World} (h : (pr b A c l).Ok w) : ∃ x, PtrOk b x ∧ Hp (fun k => k = b ∨ obk A = some k) w w [bp b x A c l.length, ow A c l] := by
  obtain ⟨x, hx, hb, ho, hne⟩ := h.holds
  refine ⟨x, hx, Tch.refl _ _, ?_, ?_, ?_⟩
  · intro c hc
    simp only [List.mem_cons, List.not_mem_nil, or_false] at hc
    rcases hc with rfl | rfl
    · exact bk_ok hb
    · exact ow_ok ho
  · refine List.pairwise_cons.2 ⟨fun c hc _ k hk => ?_, List.pairwise_singleton _ _⟩
    simp only [List.mem_cons, List.not_mem_nil, or_false] at hc
    subst hc
    obtain ⟨h1, h2⟩ := hk
    have h1 : k = b := h1
    subst h1
    exact hne h2
  · intro c hc _ k hk
    simp only [List.mem_cons, List.not_mem_nil, or_false] at hc
    rcases hc with rfl | rfl
    · exact .inl (.inl hk)
    · exact .inl (.inr hk)
theorem write_p {b c : Nat} {A : Option Addr} {l : Bs} {w : World} (s : Bs) (h : (pr b A c l).Ok w) (hlen : l.length + s.length ≤ 140737488355328) :
    Cl Tryz.prog 72 #[.pointer (some ⟨b, 0, none⟩), .string (bs s)] w (fun v w' => ∃ A' c', Hp (pr b A c l).fp w w' [pr b A' c' (l ++ s)]) (fun _ _ => False) := by
  obtain ⟨x, hx, H⟩ := pr_open h
  refine Cl.mk (write_c b x A c l s w hx H hlen) ?_
  rintro v w' ⟨A', c', H'⟩
  exact ⟨A', c', Hp.prN (.inr rfl) H'⟩
theorem take_flat {parts : List Bs} {i : Nat} {x : Bs} (h : parts[i]? = some x) : (parts.take (i + 1)).flatten = (parts.take i).flatten ++ x := by
  obtain ⟨h1, h2⟩ := List.getElem?_eq_some_iff.1 h
  rw [List.take_succ_eq_append_getElem h1, List.flatten_append, h2]; simp
theorem take_flat_le (parts : List Bs) (i : Nat) : (parts.take i).flatten.length ≤ parts.flatten.length := by
  conv => rhs; rw [← List.take_append_drop i parts, List.flatten_append, List.length_append]
  omega
set_option maxHeartbeats 1000000 in
theorem add_c {b c : Nat} {A : Option Addr} {l : Bs} {w : World} (Q : Option Addr) (cq : Nat) (parts : List Bs) (h : (pr b A c l).Ok w) (hr : RdS strE 1 w Q parts) (hsep : ∀ k, obk Q = some k → ¬ (k = b ∨ obk A = some k)) (hpl : parts.length ≤ 1000) (hlen : l.length + parts.flatten.length ≤ 140737488355328) :
    Cl Tryz.prog 44 #[.pointer (some ⟨b, 0, none⟩), .slice Q parts.length cq] w (fun v w' => ∃ A' c', Hp (pr b A c l).fp w w' [pr b A' c' (l ++ parts.flatten)]) (fun _ _ => False) := by
  refine calls_ex (args := [.pointer (some ⟨b, 0, none⟩), .slice Q parts.length cq]) T.ok Tryz.func44 rfl rfl rfl rfl ?_
  have H := Hp.start (S := (pr b A c l).fp) h (fun k hk => hk)
  repeat' ((conv => whnf); first | refine ztT ?_ | (refine ztB ?_ ?_ <;> intro _ <;> try (exfalso; omega)) | (refine ztW ?_; clear H; intro _ _ H _) | fail)
  refine Lp.g0 T.ok (σ := Nat × Option Addr × Nat) (fun s => [(8, .int .i64 (s.1 : Int)), (7, .int .i64 (parts.length : Int)), (6, .slice Q parts.length cq), (0, .pointer (some ⟨b, 0, none⟩))])
    (fun s w' => s.1 ≤ parts.length ∧ Hp (pr b A c l).fp w w' [pr b s.2.1 s.2.2 (l ++ (parts.take s.1).flatten)]) (fun s _ => parts.length - s.1) (0, A, c) rfl ⟨rfl, rfl, rfl, rfl, trivial⟩ ⟨Nat.zero_le _, by simpa using H⟩ ?_
  clear H
  rintro ⟨i, A1, c1⟩ w5 ⟨hi, H⟩
  replace hi : i ≤ parts.length := hi
  dsimp only at H
  by_cases hlt : i < parts.length
  · obtain ⟨x, hx⟩ : ∃ x, parts[i]? = some x := ⟨_, List.getElem?_eq_getElem hlt⟩
    have hr1 : RdS strE 1 w5 Q parts := hr.keep H.size fun k hk hkl => H.tch.block k hkl (hsep k hk)
    have htf := take_flat hx
    have hle := take_flat_le parts (i + 1)
    rw [htf, List.length_append] at hle
    repeat' ((conv => whnf); first | refine ztT ?_ | (refine ztB ?_ ?_ <;> intro _ <;> try (exfalso; omega)) | (refine ztA ?_; clear H; intro _ _ H _) | fail)
    ((conv => whnf); refine Cl.mk (write_p x (H.ok _ (by exact List.Mem.head _)) (by rw [List.length_append]; omega)) ?_)
    rintro _ w6 ⟨A2, c2, H'⟩
    replace H := H.upd (c := pr b A1 c1 (l ++ (parts.take i).flatten)) H' rfl (.inl rfl)
    repeat' ((conv => whnf); first | refine ztT ?_ | (refine ztB ?_ ?_ <;> intro _ <;> try (exfalso; omega)) | (refine ztW ?_; clear H; intro _ _ H _) | fail)
    refine ⟨(i + 1, A2, c2), ⟨at_int (m := ((i + 1 : Nat) : Int)) rfl (w64 (by simp) (by omega) (by omega)), rfl, rfl, rfl, trivial⟩, rfl, ⟨hlt, ?_⟩, (show parts.length - (i + 1) < parts.length - i by omega)⟩
    show Hp _ w _ [pr b A2 c2 (l ++ (parts.take (i + 1)).flatten)]
    rw [htf, ← List.append_assoc]
    exact H
  · rw [List.take_of_length_le (by omega)] at H
    repeat' ((conv => whnf); first | refine ztT ?_ | (refine ztB ?_ ?_ <;> intro _ <;> try (exfalso; omega)) | (refine ztW ?_; clear H; intro _ _ H _) | fail)
    exact ⟨A1, c1, H⟩
theorem add_h {S : Nat → Prop} {w0 w : World} {Γ L R : List Ck} {b c q cq : Nat} {A : Option Addr} {l : Bs} (parts : List Bs) (H : Hp S w0 w (bk q 9 (parts.flatMap strE) :: Γ)) (u : Sp Γ L (pr b A c l) R) (hpl : parts.length ≤ 1000) (hlen : l.length + parts.flatten.length ≤ 140737488355328) :
    Cl Tryz.prog 44 #[.pointer (some ⟨b, 0, none⟩), .slice (some ⟨q, 0, none⟩) parts.length cq] w (fun v w' => ∃ A' c', Hp S w0 w' (L ++ pr b A' c' (l ++ parts.flatten) :: R)) (fun _ _ => False) := by
  have hm : pr b A c l ∈ Γ := by rw [u.eq]; simp
  have hs := (List.pairwise_cons.1 H.sep).1 _ hm (.inl rfl)
  refine Cl.mk (add_c (some ⟨q, 0, none⟩) cq parts (H.ok _ (List.mem_cons_of_mem _ hm)) (H.rdb 0 rfl fun _ _ => rfl) (fun k hk hk2 => hs k ⟨?_, hk2⟩) hpl hlen) ?_
  · have : some q = some k := hk
    exact (Option.some.inj this).symm
  rintro v w' ⟨A', c', H'⟩
  exact ⟨A', c', H.d0.putS u H' rfl (.inl rfl)⟩
theorem Hp.bok {S : Nat → Prop} {wb w w' : World} {Γ : List Ck} {c : Ck} (H : Hp S w w' Γ) (HB : BaseOk S wb w) (hm : c ∈ Γ) (hn : c.new) : BaseOk c.fp wb w' :=
  ⟨H.base2 HB, fun k hk => by
    rcases H.dom c hm hn k hk with h | h
    · exact HB.2 k h
    · exact Nat.le_trans HB.1.size h⟩
end Go.Proofs.YtfnjodpehomgfaaGreatDoor
namespace Go.Proofs.YtfnjodpehomgfaaGreatDoor
open Go Go.Sh Go.Tx
attribute [local irreducible] Blk Ext RdS
def StmtC (N : Nat) : Prop := ∀ (s : SM) (o : Nat) (wb w : World) (b c : Nat) (A : Option Addr) (l : Bs), SM.ht s ≤ N → Rp wb → SM.Rd wb s → stB s.e = true → nS s.e ≤ 2147483648 → o + SM.ht s ≤ 1099511627776 → BaseOk (pr b A c l).fp wb w → (pr b A c l).Ok w → l.length + (txS o s.e).length ≤ 140737488355328 →
  Cl Tryz.prog 75 #[.pointer (some ⟨b, 0, none⟩), s.v, .int .i64 (o : Int)] w (fun v w' => ∃ A' c', Hp (pr b A c l).fp w w' [pr b A' c' (l ++ txS o s.e)]) (fun _ _ => False)
theorem stBs_mem {x : SM} : ∀ {l : List SM}, stBs (SM.es l) = true → x ∈ l → stB x.e = true ∧ nS x.e ≤ nSs (SM.es l)
  | [], _, h => by simp at h
  | y :: r, hb, h => by
    simp only [SM.es, stBs, Bool.and_eq_true] at hb
    simp only [SM.es, nSs]
    rcases List.mem_cons.1 h with rfl | h
    · exact ⟨hb.1, by omega⟩
    · have := stBs_mem hb.2 h
      exact ⟨this.1, by omega⟩
theorem es_take {l : List SM} {i : Nat} {x : SM} (o : Nat) (h : l[i]? = some x) : txB o (SM.es (l.take (i + 1))) = txB o (SM.es (l.take i)) ++ (tabs o ++ (txS o x.e ++ [10])) := by
  obtain ⟨h1, h2⟩ := List.getElem?_eq_some_iff.1 h
  rw [List.take_succ_eq_append_getElem h1, SM.es_app, txB_app, h2]
  simp [SM.es, txB]
theorem es_take_le (o : Nat) (l : List SM) (i : Nat) : (txB o (SM.es (l.take i))).length ≤ (txB o (SM.es l)).length := by
  conv => rhs; rw [← List.take_append_drop i l, SM.es_app, txB_app, List.length_append]
  omega
def SM.kd : SM → Int
  | .mk kd _ _ _ _ _ _ _ _ => kd
theorem else_nil {f : List SM} (o : Nat) (one many : Bs) (h : f.length = 0) : elseT o (SM.es f) one many = [] := by
  have : f = [] := List.eq_nil_of_length_eq_zero h
  subst this; rfl
theorem else_one {f : List SM} {x : SM} (o : Nat) (one many : Bs) (hx : f[0]? = some x) (h : f.length = 1) (hk : x.kd = 4) : elseT o (SM.es f) one many = 32 :: (k_else ++ 32 :: one) ∧ txH o (SM.es f) = txS o x.e := by
  match f, h, hx with
  | [y], _, hx =>
    simp at hx
    subst hx
    obtain ⟨kd, nm, e, B, cb, b, E, ce, f⟩ := y
    have hk : kd = 4 := hk
    subst hk
    exact ⟨by simp [SM.es, SM.e, elseT], rfl⟩
theorem else_many {f : List SM} {x : SM} (o : Nat) (one many : Bs) (hx : f[0]? = some x) (h : ¬ (f.length = 1 ∧ x.kd = 4)) : elseT o (SM.es f) one many = 32 :: (k_else ++ 32 :: 123 :: 10 :: (many ++ (tabs o ++ [125]))) := by
  match f, hx with
  | y :: r, hx =>
    simp at hx
    subst hx
    obtain ⟨kd, nm, e, B, cb, b, E, ce, f⟩ := y
    have h : ¬ (r.length + 1 = 1 ∧ kd = 4) := by simpa [SM.kd] using h
    have hr : SM.es r = [] ↔ r.length = 0 := by cases r <;> simp [SM.es]
    simp only [SM.es, SM.e, elseT, hr]
    rw [if_neg (by omega)]
theorem tabs_len (n : Nat) : (tabs n).length = n := by simp [tabs]
set_option maxHeartbeats 4000000 in
theorem body_of {N : Nat} (ih : StmtC N) (ls : List SM) (B : Option Addr) (cb o : Nat) (wb w : World) (b c : Nat) (A : Option Addr) (l : Bs) (hN : SM.hts ls ≤ N) (hG : Rp wb) (hr : RdS SM.enc 10 wb B ls) (hrs : SM.Rds wb ls) (hls : ls.length ≤ 9000000) (hb : stBs (SM.es ls) = true) (hn : nSs (SM.es ls) ≤ 2147483648) (ho : o + SM.hts ls ≤ 1099511627776)
    (HB : BaseOk (pr b A c l).fp wb w) (h : (pr b A c l).Ok w) (hlen : l.length + (txB o (SM.es ls)).length ≤ 140737488355328) :
    Cl Tryz.prog 46 #[.pointer (some ⟨b, 0, none⟩), .slice B ls.length cb, .int .i64 (o : Int)] w (fun v w' => ∃ A' c', Hp (pr b A c l).fp w w' [pr b A' c' (l ++ txB o (SM.es ls))]) (fun _ _ => False) := by
  refine calls_ex (args := [.pointer (some ⟨b, 0, none⟩), .slice B ls.length cb, .int .i64 (o : Int)]) T.ok Tryz.func46 rfl rfl rfl rfl ?_
  have H := Hp.start (S := (pr b A c l).fp) h (fun k hk => hk)
  repeat' ((conv => whnf); first | refine ztT ?_ | (refine ztB ?_ ?_ <;> intro _ <;> try (exfalso; omega)) | (refine ztW ?_; clear H; intro _ _ H _) | fail)
  refine Lp.g0 T.ok (σ := Nat × Option Addr × Nat) (fun s => [(10, .int .i64 (s.1 : Int)), (9, .int .i64 (ls.length : Int)), (8, .slice B ls.length cb), (2, .int .i64 (o : Int)), (0, .pointer (some ⟨b, 0, none⟩))])
    (fun s w' => s.1 ≤ ls.length ∧ Hp (pr b A c l).fp w w' [pr b s.2.1 s.2.2 (l ++ txB o (SM.es (ls.take s.1)))]) (fun s _ => ls.length - s.1) (0, A, c) rfl ⟨rfl, rfl, rfl, rfl, rfl, trivial⟩ ⟨Nat.zero_le _, by simpa [SM.es, txB] using H⟩ ?_
  clear H
  rintro ⟨i, A1, c1⟩ w5 ⟨hi, H⟩
  replace hi : i ≤ ls.length := hi
  dsimp only at H
  by_cases hlt : i < ls.length
  · obtain ⟨x, hx⟩ : ∃ x, ls[i]? = some x := ⟨_, List.getElem?_eq_getElem hlt⟩
    have hm := List.mem_of_getElem? hx
    have hxh := SM.ht_mem hm
    have hxr := SM.rds_mem hm hrs
    obtain ⟨hxb, hxn⟩ := stBs_mem hb hm
    have hr1 := RdS.from (H.base2 HB) hr
    have het := es_take o hx
    have hle := es_take_le o ls (i + 1)
    have htl := tabs_len o
    rw [het] at hle
    simp only [List.length_append, List.length_cons, List.length_nil] at hle
    obtain ⟨kd, nm, ⟨kx, ox, nx, mx, cx, Ax, cpx, lx⟩, B2, cb2, b2, E2, ce2, f2⟩ := x
    repeat' ((conv => whnf); first | refine ztT ?_ | (refine ztB ?_ ?_ <;> intro _ <;> try (exfalso; omega)) | (refine ztW ?_; clear H; intro _ _ H _) | fail)
    ((conv => whnf); refine Al.hp H ?_; clear H; intro p7 _ H _)
    repeat' ((conv => whnf); first | refine ztT ?_ | (refine ztB ?_ ?_ <;> intro _ <;> try (exfalso; omega)) | (refine ztW ?_; clear H; intro _ _ H _) | fail)
    (((conv => whnf); refine Cl.mk (repeat_c o _ (by omega)) ?_); rintro _ _ ⟨rfl, hx⟩; replace H := H.ext hx; clear hx)
    repeat' ((conv => whnf); first | refine ztT ?_ | (refine ztB ?_ ?_ <;> intro _ <;> try (exfalso; omega)) | (refine ztW ?_; clear H; intro _ _ H _) | fail)
    refine Sm.lith (cs := strE (tabs o)) H T.ok (fun p8 w6 H _ => ?_)
    repeat' ((conv => whnf); first | refine ztT ?_ | (refine ztB ?_ ?_ <;> intro _ <;> try (exfalso; omega)) | (refine ztW ?_; clear H; intro _ _ H _) | fail)
    ((conv => whnf); refine Cl.mk (add_h [tabs o] H (.tail .head) (by simp) (by simp; omega)) ?_)
    rintro _ w7 ⟨A2, c2, H⟩
    simp only [List.flatten_cons, List.flatten_nil, List.append_nil, List.cons_append, List.nil_append] at H
    repeat' ((conv => whnf); first | refine ztT ?_ | (refine ztB ?_ ?_ <;> intro _ <;> try (exfalso; omega)) | (refine ztW ?_; clear H; intro _ _ H _) | fail)
    ((conv => whnf); refine Cl.mk (ih (.mk kd nm (.mk kx ox nx mx cx Ax cpx lx) B2 cb2 b2 E2 ce2 f2) o wb _ b c2 A2 _ (by omega) hG hxr hxb (by omega) (by omega) (Hp.bok H HB (.tail _ (.head _)) (.inl rfl)) (H.ok _ (.tail _ (.head _))) (by simp only [List.length_append]; omega)) ?_)
    rintro _ w8 ⟨A3, c3, H'⟩
    replace H := H.upd (c := pr b A2 c2 _) H' rfl (.inl rfl)
    clear H'
    repeat' ((conv => whnf); first | refine ztT ?_ | (refine ztB ?_ ?_ <;> intro _ <;> try (exfalso; omega)) | (refine ztW ?_; clear H; intro _ _ H _) | fail)
    refine Sm.lith (cs := strE [10]) H T.ok (fun p9 w9 H _ => ?_)
    repeat' ((conv => whnf); first | refine ztT ?_ | (refine ztB ?_ ?_ <;> intro _ <;> try (exfalso; omega)) | (refine ztW ?_; clear H; intro _ _ H _) | fail)
    ((conv => whnf); refine Cl.mk (add_h [[10]] H (.tail .head) (by simp) (by simp; omega)) ?_)
    rintro _ w10 ⟨A4, c4, H⟩
    simp only [List.flatten_cons, List.flatten_nil, List.append_nil, List.cons_append, List.nil_append] at H
    repeat' ((conv => whnf); first | refine ztT ?_ | (refine ztB ?_ ?_ <;> intro _ <;> try (exfalso; omega)) | (refine ztW ?_; clear H; intro _ _ H _) | fail)
    refine ⟨(i + 1, A4, c4), ⟨at_int (m := ((i + 1 : Nat) : Int)) rfl (w64 (by simp) (by omega) (by omega)), rfl, rfl, rfl, rfl, trivial⟩, rfl, ⟨hlt, ?_⟩, (show ls.length - (i + 1) < ls.length - i by omega)⟩
    show Hp _ w _ [pr b A4 c4 (l ++ txB o (SM.es (ls.take (i + 1))))]
    rw [het]
    simp only [List.append_assoc] at H ⊢
    exact H.sel [1] rfl
  · rw [List.take_of_length_le (by omega)] at H
    repeat' ((conv => whnf); first | refine ztT ?_ | (refine ztB ?_ ?_ <;> intro _ <;> try (exfalso; omega)) | (refine ztW ?_; clear H; intro _ _ H _) | fail)
    exact ⟨A1, c1, H⟩
set_option maxHeartbeats 4000000 in
theorem stmt_c : ∀ N, StmtC N
  | 0, s, o, wb, w, b, c, A, l, hN, _, _, _, _, _, _, _, _ => by cases s; simp [SM.ht] at hN
  | N + 1, .mk kd nm (.mk kx ox nx mx cx Ax cpx lx) B cb bd E ce f, o, wb, w, b, c, A, l, hN, hG, hR, hb, hn, ho, HB, h, hlen => by
    have ih := stmt_c N
    obtain ⟨hre, hrb, hrbs, hrf, hrfs, hlb, hlf, hnm⟩ := hR
    simp only [SM.ht] at hN ho
    have hnn : nE (ET.e (.mk kx ox nx mx cx Ax cpx lx)) + nSs (SM.es bd) + nSs (SM.es f) + 1 ≤ 2147483648 := hn
    have hx : txS o (SM.e (.mk kd nm (.mk kx ox nx mx cx Ax cpx lx) B cb bd E ce f)) = stT kd nm (txE (ET.e (.mk kx ox nx mx cx Ax cpx lx))) o (txB (o + 1) (SM.es bd)) (elseT o (SM.es f) (txH o (SM.es f)) (txB (o + 1) (SM.es f))) := rfl
    rw [hx] at hlen ⊢
    have htl := tabs_len o
    have hbd : stB (SM.e (.mk kd nm (.mk kx ox nx mx cx Ax cpx lx) B cb bd E ce f)) = true := hb
    simp only [SM.e, stB] at hbd
    have hexp : exB (ET.e (.mk kx ox nx mx cx Ax cpx lx)) = true → ∀ w', Ext wb w' → Cl Tryz.prog 101 #[ET.v (.mk kx ox nx mx cx Ax cpx lx)] w' (fun v w'' => v = .string (bs (txE (ET.e (.mk kx ox nx mx cx Ax cpx lx)))) ∧ Ext w' w'') (fun _ _ => False) := fun he w' e => wexpr_c _ _ _ (Nat.le_refl _) (hG.ext e) (hre.ext e) he (by omega)
    have hbody : ∀ n, n = ((o + 1 : Nat) : Int) → ∀ (w' : World) (A' : Option Addr) (c' : Nat) (l' : Bs), stBs (SM.es bd) = true → BaseOk (pr b A' c' l').fp wb w' → (pr b A' c' l').Ok w' → l'.length + (txB (o + 1) (SM.es bd)).length ≤ 140737488355328 → Cl Tryz.prog 46 #[.pointer (some ⟨b, 0, none⟩), .slice B bd.length cb, .int .i64 n] w' (fun v w'' => ∃ A'' c'', Hp (pr b A' c' l').fp w' w'' [pr b A'' c'' (l' ++ txB (o + 1) (SM.es bd))]) (fun _ _ => False) := fun n hn1 w' A' c' l' h1 h2 h3 h4 => by rw [hn1]; exact body_of ih bd B cb (o + 1) wb w' b c' A' l' (by omega) hG hrb hrbs hlb h1 (by omega) (by omega) h2 h3 h4
    have hbody2 : ∀ n, n = ((o + 1 : Nat) : Int) → ∀ (w' : World) (A' : Option Addr) (c' : Nat) (l' : Bs), stBs (SM.es f) = true → BaseOk (pr b A' c' l').fp wb w' → (pr b A' c' l').Ok w' → l'.length + (txB (o + 1) (SM.es f)).length ≤ 140737488355328 → Cl Tryz.prog 46 #[.pointer (some ⟨b, 0, none⟩), .slice E f.length ce, .int .i64 n] w' (fun v w'' => ∃ A'' c'', Hp (pr b A' c' l').fp w' w'' [pr b A'' c'' (l' ++ txB (o + 1) (SM.es f))]) (fun _ _ => False) := fun n hn1 w' A' c' l' h1 h2 h3 h4 => by rw [hn1]; exact body_of ih f E ce (o + 1) wb w' b c' A' l' (by omega) hG hrf hrfs hlf h1 (by omega) (by omega) h2 h3 h4
    refine calls_ex (args := [.pointer (some ⟨b, 0, none⟩), .agg #[.int .i64 kd, .string (bs nm), .int .i64 kx, .int .i64 ox, .int .i64 nx, .string (bs mx), .string (bs cx), .slice Ax lx.length cpx, .slice B bd.length cb, .slice E f.length ce], .int .i64 (o : Int)]) T.ok Tryz.func75 rfl rfl rfl rfl ?_
    have H := Hp.start (S := (pr b A c l).fp) h (fun k hk => hk)
    refine Sq.mk ?_
    ((conv => whnf); refine Al.hp H ?_; clear H; intro p4 _ H _)
    repeat' ((conv => whnf); first | refine ztT ?_ | (refine ztB ?_ ?_ <;> intro _ <;> try (exfalso; omega)) | (refine ztW ?_; clear H; intro _ _ H _) | fail)
    (((conv => whnf); refine Cl.mk (repeat_c o _ (by omega)) ?_); rintro _ _ ⟨rfl, hx⟩; replace H := H.ext hx; clear hx)
    repeat' ((conv => whnf); first | refine ztT ?_ | (refine ztB ?_ ?_ <;> intro _ <;> try (exfalso; omega)) | (refine ztW ?_; clear H; intro _ _ H _) | fail)
    · have hk : kd = 0 := by assumption
      subst hk
      have he : exB (ET.e (.mk kx ox nx mx cx Ax cpx lx)) = true := by simp at hbd; simp [hbd]
      rw [show stT 0 nm (txE (ET.e (.mk kx ox nx mx cx Ax cpx lx))) o (txB (o + 1) (SM.es bd)) (elseT o (SM.es f) (txH o (SM.es f)) (txB (o + 1) (SM.es f))) = k_let ++ 32 :: (nm ++ 32 :: 61 :: 32 :: ((txE (ET.e (.mk kx ox nx mx cx Ax cpx lx))) ++ [59])) from rfl] at hlen ⊢
      simp only [List.length_append, List.length_cons, List.length_nil] at hlen
      (conv => whnf)
      refine Dr.ch T.ok mixed [0, 1, 2, 3, 4] [5, 6, 7] (by kernel_rfl) rfl rfl (fun w' => Blk w' p4 76 [.int .i64 0, .string (bs nm), .int .i64 kx, .int .i64 ox, .int .i64 nx, .string (bs mx), .string (bs cx), .slice Ax lx.length cpx, .slice B bd.length cb, .slice E f.length ce]) (fun w1 eT _ => ?_)
      replace H := H.ext eT
      repeat' ((conv => whnf); first | refine QLd1.own (fun _ hw => hw) ?_ | refine QLd.own (fun _ hw => hw) ?_)
      (conv => whnf)
      refine ⟨H.blk 0 rfl, ?_⟩
      (((conv => whnf); refine Cl.mk (hexp he _ (H.base2 HB)) ?_); rintro _ _ ⟨rfl, hx⟩; replace H := H.ext hx; clear hx)
      (conv => whnf)
      refine ⟨H.blk 0 rfl, ?_⟩
      refine Sm.lith (cs := ([k_let ++ [32], nm, [32, 61, 32], (txE (ET.e (.mk kx ox nx mx cx Ax cpx lx))), [59]] : List Bs).flatMap strE) H T.ok (fun p8 w6 H _ => ?_)
      (conv => whnf)
      refine ⟨H.blk 1 rfl, ?_⟩
      ((conv => whnf); refine Cl.mk (add_h [k_let ++ [32], nm, [32, 61, 32], (txE (ET.e (.mk kx ox nx mx cx Ax cpx lx))), [59]] H (.tail .head) (by simp) (by simp; omega)) ?_)
      rintro _ w7 ⟨A2, c2, H⟩
      simp only [List.flatten_cons, List.flatten_nil, List.append_nil, List.cons_append, List.nil_append] at H
      repeat' ((conv => whnf); first | refine ztT ?_ | (refine ztB ?_ ?_ <;> intro _ <;> try (exfalso; omega)) | (refine ztW ?_; clear H; intro _ _ H _) | fail)
      exact ⟨A2, c2, by simpa only [List.append_assoc, List.cons_append, List.nil_append] using H.sel (Γ' := [pr b A2 c2 _]) [1] rfl⟩
    · have hk : kd = 1 := by assumption
      subst hk
      have he : exB (ET.e (.mk kx ox nx mx cx Ax cpx lx)) = true := by simp at hbd; simp [hbd]
      rw [show stT 1 nm (txE (ET.e (.mk kx ox nx mx cx Ax cpx lx))) o (txB (o + 1) (SM.es bd)) (elseT o (SM.es f) (txH o (SM.es f)) (txB (o + 1) (SM.es f))) = nm ++ 32 :: 61 :: 32 :: ((txE (ET.e (.mk kx ox nx mx cx Ax cpx lx))) ++ [59]) from rfl] at hlen ⊢
      simp only [List.length_append, List.length_cons, List.length_nil] at hlen
      (conv => whnf)
      refine Dr.ch T.ok mixed [0, 1, 2, 3, 4] [5, 6, 7] (by kernel_rfl) rfl rfl (fun w' => Blk w' p4 76 [.int .i64 1, .string (bs nm), .int .i64 kx, .int .i64 ox, .int .i64 nx, .string (bs mx), .string (bs cx), .slice Ax lx.length cpx, .slice B bd.length cb, .slice E f.length ce]) (fun w1 eT _ => ?_)
      replace H := H.ext eT
      repeat' ((conv => whnf); first | refine QLd1.own (fun _ hw => hw) ?_ | refine QLd.own (fun _ hw => hw) ?_)
      (conv => whnf)
      refine ⟨H.blk 0 rfl, ?_⟩
      (((conv => whnf); refine Cl.mk (hexp he _ (H.base2 HB)) ?_); rintro _ _ ⟨rfl, hx⟩; replace H := H.ext hx; clear hx)
      (conv => whnf)
      refine ⟨H.blk 0 rfl, ?_⟩
      refine Sm.lith (cs := ([nm, [32, 61, 32], (txE (ET.e (.mk kx ox nx mx cx Ax cpx lx))), [59]] : List Bs).flatMap strE) H T.ok (fun p8 w6 H _ => ?_)
      (conv => whnf)
      refine ⟨H.blk 1 rfl, ?_⟩
      ((conv => whnf); refine Cl.mk (add_h [nm, [32, 61, 32], (txE (ET.e (.mk kx ox nx mx cx Ax cpx lx))), [59]] H (.tail .head) (by simp) (by simp; omega)) ?_)
      rintro _ w7 ⟨A2, c2, H⟩
      simp only [List.flatten_cons, List.flatten_nil, List.append_nil, List.cons_append, List.nil_append] at H
      repeat' ((conv => whnf); first | refine ztT ?_ | (refine ztB ?_ ?_ <;> intro _ <;> try (exfalso; omega)) | (refine ztW ?_; clear H; intro _ _ H _) | fail)
      exact ⟨A2, c2, by simpa only [List.append_assoc, List.cons_append, List.nil_append] using H.sel (Γ' := [pr b A2 c2 _]) [1] rfl⟩
    · have hk : kd = 2 := by assumption
      subst hk
      have he : exB (ET.e (.mk kx ox nx mx cx Ax cpx lx)) = true := by simp at hbd; simp [hbd]
      rw [show stT 2 nm (txE (ET.e (.mk kx ox nx mx cx Ax cpx lx))) o (txB (o + 1) (SM.es bd)) (elseT o (SM.es f) (txH o (SM.es f)) (txB (o + 1) (SM.es f))) = k_spawn ++ 32 :: (nm ++ 32 :: 61 :: 32 :: ((txE (ET.e (.mk kx ox nx mx cx Ax cpx lx))) ++ [59])) from rfl] at hlen ⊢
      simp only [List.length_append, List.length_cons, List.length_nil] at hlen
      (conv => whnf)
      refine Dr.ch T.ok mixed [0, 1, 2, 3, 4] [5, 6, 7] (by kernel_rfl) rfl rfl (fun w' => Blk w' p4 76 [.int .i64 2, .string (bs nm), .int .i64 kx, .int .i64 ox, .int .i64 nx, .string (bs mx), .string (bs cx), .slice Ax lx.length cpx, .slice B bd.length cb, .slice E f.length ce]) (fun w1 eT _ => ?_)
      replace H := H.ext eT
      repeat' ((conv => whnf); first | refine QLd1.own (fun _ hw => hw) ?_ | refine QLd.own (fun _ hw => hw) ?_)
      (conv => whnf)
      refine ⟨H.blk 0 rfl, ?_⟩
      (((conv => whnf); refine Cl.mk (hexp he _ (H.base2 HB)) ?_); rintro _ _ ⟨rfl, hx⟩; replace H := H.ext hx; clear hx)
      (conv => whnf)
      refine ⟨H.blk 0 rfl, ?_⟩
      refine Sm.lith (cs := ([k_spawn ++ [32], nm, [32, 61, 32], (txE (ET.e (.mk kx ox nx mx cx Ax cpx lx))), [59]] : List Bs).flatMap strE) H T.ok (fun p8 w6 H _ => ?_)
      (conv => whnf)
      refine ⟨H.blk 1 rfl, ?_⟩
      ((conv => whnf); refine Cl.mk (add_h [k_spawn ++ [32], nm, [32, 61, 32], (txE (ET.e (.mk kx ox nx mx cx Ax cpx lx))), [59]] H (.tail .head) (by simp) (by simp; omega)) ?_)
      rintro _ w7 ⟨A2, c2, H⟩
      simp only [List.flatten_cons, List.flatten_nil, List.append_nil, List.cons_append, List.nil_append] at H
      repeat' ((conv => whnf); first | refine ztT ?_ | (refine ztB ?_ ?_ <;> intro _ <;> try (exfalso; omega)) | (refine ztW ?_; clear H; intro _ _ H _) | fail)
      exact ⟨A2, c2, by simpa only [List.append_assoc, List.cons_append, List.nil_append] using H.sel (Γ' := [pr b A2 c2 _]) [1] rfl⟩
    · have hk : kd = 3 := by assumption
      subst hk
      rw [show stT 3 nm (txE (ET.e (.mk kx ox nx mx cx Ax cpx lx))) o (txB (o + 1) (SM.es bd)) (elseT o (SM.es f) (txH o (SM.es f)) (txB (o + 1) (SM.es f))) = k_sync ++ [59] from rfl] at hlen ⊢
      simp only [List.length_append, List.length_cons, List.length_nil] at hlen
      repeat' ((conv => whnf); first | refine ztT ?_ | (refine ztB ?_ ?_ <;> intro _ <;> try (exfalso; omega)) | (refine ztW ?_; clear H; intro _ _ H _) | fail)
      refine Sm.lith (cs := ([k_sync ++ [59]] : List Bs).flatMap strE) H T.ok (fun p8 w6 H _ => ?_)
      repeat' ((conv => whnf); first | refine ztT ?_ | (refine ztB ?_ ?_ <;> intro _ <;> try (exfalso; omega)) | (refine ztW ?_; clear H; intro _ _ H _) | fail)
      ((conv => whnf); refine Cl.mk (add_h [k_sync ++ [59]] H (.tail .head) (by simp) (by simp; omega)) ?_)
      rintro _ w7 ⟨A2, c2, H⟩
      simp only [List.flatten_cons, List.flatten_nil, List.append_nil, List.cons_append, List.nil_append] at H
      repeat' ((conv => whnf); first | refine ztT ?_ | (refine ztB ?_ ?_ <;> intro _ <;> try (exfalso; omega)) | (refine ztW ?_; clear H; intro _ _ H _) | fail)
      exact ⟨A2, c2, by simpa only [List.append_assoc, List.cons_append, List.nil_append] using H.sel (Γ' := [pr b A2 c2 _]) [1] rfl⟩
    · have hk : kd = 8 := by assumption
      subst hk
      rw [show stT 8 nm (txE (ET.e (.mk kx ox nx mx cx Ax cpx lx))) o (txB (o + 1) (SM.es bd)) (elseT o (SM.es f) (txH o (SM.es f)) (txB (o + 1) (SM.es f))) = k_break ++ [59] from rfl] at hlen ⊢
      simp only [List.length_append, List.length_cons, List.length_nil] at hlen
      repeat' ((conv => whnf); first | refine ztT ?_ | (refine ztB ?_ ?_ <;> intro _ <;> try (exfalso; omega)) | (refine ztW ?_; clear H; intro _ _ H _) | fail)
      refine Sm.lith (cs := ([k_break ++ [59]] : List Bs).flatMap strE) H T.ok (fun p8 w6 H _ => ?_)
      repeat' ((conv => whnf); first | refine ztT ?_ | (refine ztB ?_ ?_ <;> intro _ <;> try (exfalso; omega)) | (refine ztW ?_; clear H; intro _ _ H _) | fail)
      ((conv => whnf); refine Cl.mk (add_h [k_break ++ [59]] H (.tail .head) (by simp) (by simp; omega)) ?_)
      rintro _ w7 ⟨A2, c2, H⟩
      simp only [List.flatten_cons, List.flatten_nil, List.append_nil, List.cons_append, List.nil_append] at H
      repeat' ((conv => whnf); first | refine ztT ?_ | (refine ztB ?_ ?_ <;> intro _ <;> try (exfalso; omega)) | (refine ztW ?_; clear H; intro _ _ H _) | fail)
      exact ⟨A2, c2, by simpa only [List.append_assoc, List.cons_append, List.nil_append] using H.sel (Γ' := [pr b A2 c2 _]) [1] rfl⟩
    · have hk : kd = 9 := by assumption
      subst hk
      rw [show stT 9 nm (txE (ET.e (.mk kx ox nx mx cx Ax cpx lx))) o (txB (o + 1) (SM.es bd)) (elseT o (SM.es f) (txH o (SM.es f)) (txB (o + 1) (SM.es f))) = k_continue ++ [59] from rfl] at hlen ⊢
      simp only [List.length_append, List.length_cons, List.length_nil] at hlen
      repeat' ((conv => whnf); first | refine ztT ?_ | (refine ztB ?_ ?_ <;> intro _ <;> try (exfalso; omega)) | (refine ztW ?_; clear H; intro _ _ H _) | fail)
      refine Sm.lith (cs := ([k_continue ++ [59]] : List Bs).flatMap strE) H T.ok (fun p8 w6 H _ => ?_)
      repeat' ((conv => whnf); first | refine ztT ?_ | (refine ztB ?_ ?_ <;> intro _ <;> try (exfalso; omega)) | (refine ztW ?_; clear H; intro _ _ H _) | fail)
      ((conv => whnf); refine Cl.mk (add_h [k_continue ++ [59]] H (.tail .head) (by simp) (by simp; omega)) ?_)
      rintro _ w7 ⟨A2, c2, H⟩
      simp only [List.flatten_cons, List.flatten_nil, List.append_nil, List.cons_append, List.nil_append] at H
      repeat' ((conv => whnf); first | refine ztT ?_ | (refine ztB ?_ ?_ <;> intro _ <;> try (exfalso; omega)) | (refine ztW ?_; clear H; intro _ _ H _) | fail)
      exact ⟨A2, c2, by simpa only [List.append_assoc, List.cons_append, List.nil_append] using H.sel (Γ' := [pr b A2 c2 _]) [1] rfl⟩
    · have hk : kd = 6 := by assumption
      subst hk
      have he : exB (ET.e (.mk kx ox nx mx cx Ax cpx lx)) = true := by simp at hbd; simp [hbd]
      rw [show stT 6 nm (txE (ET.e (.mk kx ox nx mx cx Ax cpx lx))) o (txB (o + 1) (SM.es bd)) (elseT o (SM.es f) (txH o (SM.es f)) (txB (o + 1) (SM.es f))) = k_do ++ 32 :: ((txE (ET.e (.mk kx ox nx mx cx Ax cpx lx))) ++ [59]) from rfl] at hlen ⊢
      simp only [List.length_append, List.length_cons, List.length_nil] at hlen
      (((conv => whnf); refine Cl.mk (hexp he _ (H.base2 HB)) ?_); rintro _ _ ⟨rfl, hx⟩; replace H := H.ext hx; clear hx)
      repeat' ((conv => whnf); first | refine ztT ?_ | (refine ztB ?_ ?_ <;> intro _ <;> try (exfalso; omega)) | (refine ztW ?_; clear H; intro _ _ H _) | fail)
      refine Sm.lith (cs := ([k_do ++ [32], (txE (ET.e (.mk kx ox nx mx cx Ax cpx lx))), [59]] : List Bs).flatMap strE) H T.ok (fun p8 w6 H _ => ?_)
      repeat' ((conv => whnf); first | refine ztT ?_ | (refine ztB ?_ ?_ <;> intro _ <;> try (exfalso; omega)) | (refine ztW ?_; clear H; intro _ _ H _) | fail)
      ((conv => whnf); refine Cl.mk (add_h [k_do ++ [32], (txE (ET.e (.mk kx ox nx mx cx Ax cpx lx))), [59]] H (.tail .head) (by simp) (by simp; omega)) ?_)
      rintro _ w7 ⟨A2, c2, H⟩
      simp only [List.flatten_cons, List.flatten_nil, List.append_nil, List.cons_append, List.nil_append] at H
      repeat' ((conv => whnf); first | refine ztT ?_ | (refine ztB ?_ ?_ <;> intro _ <;> try (exfalso; omega)) | (refine ztW ?_; clear H; intro _ _ H _) | fail)
      exact ⟨A2, c2, by simpa only [List.append_assoc, List.cons_append, List.nil_append] using H.sel (Γ' := [pr b A2 c2 _]) [1] rfl⟩
    · have hk : kd = 7 := by assumption
      subst hk
      have he : exB (ET.e (.mk kx ox nx mx cx Ax cpx lx)) = true := by simp at hbd; simp [hbd]
      rw [show stT 7 nm (txE (ET.e (.mk kx ox nx mx cx Ax cpx lx))) o (txB (o + 1) (SM.es bd)) (elseT o (SM.es f) (txH o (SM.es f)) (txB (o + 1) (SM.es f))) = k_return ++ 32 :: ((txE (ET.e (.mk kx ox nx mx cx Ax cpx lx))) ++ [59]) from rfl] at hlen ⊢
      simp only [List.length_append, List.length_cons, List.length_nil] at hlen
      (((conv => whnf); refine Cl.mk (hexp he _ (H.base2 HB)) ?_); rintro _ _ ⟨rfl, hx⟩; replace H := H.ext hx; clear hx)
      repeat' ((conv => whnf); first | refine ztT ?_ | (refine ztB ?_ ?_ <;> intro _ <;> try (exfalso; omega)) | (refine ztW ?_; clear H; intro _ _ H _) | fail)
      refine Sm.lith (cs := ([k_return ++ [32], (txE (ET.e (.mk kx ox nx mx cx Ax cpx lx))), [59]] : List Bs).flatMap strE) H T.ok (fun p8 w6 H _ => ?_)
      repeat' ((conv => whnf); first | refine ztT ?_ | (refine ztB ?_ ?_ <;> intro _ <;> try (exfalso; omega)) | (refine ztW ?_; clear H; intro _ _ H _) | fail)
      ((conv => whnf); refine Cl.mk (add_h [k_return ++ [32], (txE (ET.e (.mk kx ox nx mx cx Ax cpx lx))), [59]] H (.tail .head) (by simp) (by simp; omega)) ?_)
      rintro _ w7 ⟨A2, c2, H⟩
      simp only [List.flatten_cons, List.flatten_nil, List.append_nil, List.cons_append, List.nil_append] at H
      repeat' ((conv => whnf); first | refine ztT ?_ | (refine ztB ?_ ?_ <;> intro _ <;> try (exfalso; omega)) | (refine ztW ?_; clear H; intro _ _ H _) | fail)
      exact ⟨A2, c2, by simpa only [List.append_assoc, List.cons_append, List.nil_append] using H.sel (Γ' := [pr b A2 c2 _]) [1] rfl⟩
    · have hk : kd = 5 := by assumption
      subst hk
      simp at hbd
      have he : exB (ET.e (.mk kx ox nx mx cx Ax cpx lx)) = true := by simp [hbd]
      have hb1 : stBs (SM.es bd) = true := by simp [hbd]
      have hwo : IntKind.i64.wrap ((o : Int) + 1) = ((o + 1 : Nat) : Int) := w64 rfl (by omega) (by omega)
      rw [show stT 5 nm (txE (ET.e (.mk kx ox nx mx cx Ax cpx lx))) o (txB (o + 1) (SM.es bd)) (elseT o (SM.es f) (txH o (SM.es f)) (txB (o + 1) (SM.es f))) = k_while ++ 32 :: ((txE (ET.e (.mk kx ox nx mx cx Ax cpx lx))) ++ 32 :: 123 :: 10 :: (txB (o + 1) (SM.es bd) ++ (tabs o ++ [125]))) from rfl] at hlen ⊢
      simp only [List.length_append, List.length_cons, List.length_nil] at hlen
      (((conv => whnf); refine Cl.mk (hexp he _ (H.base2 HB)) ?_); rintro _ _ ⟨rfl, hx⟩; replace H := H.ext hx; clear hx)
      repeat' ((conv => whnf); first | refine ztT ?_ | (refine ztB ?_ ?_ <;> intro _ <;> try (exfalso; omega)) | (refine ztW ?_; clear H; intro _ _ H _) | fail)
      refine Sm.lith (cs := ([k_while ++ [32], (txE (ET.e (.mk kx ox nx mx cx Ax cpx lx))), [32, 123, 10]] : List Bs).flatMap strE) H T.ok (fun p8 w6 H _ => ?_)
      repeat' ((conv => whnf); first | refine ztT ?_ | (refine ztB ?_ ?_ <;> intro _ <;> try (exfalso; omega)) | (refine ztW ?_; clear H; intro _ _ H _) | fail)
      ((conv => whnf); refine Cl.mk (add_h [k_while ++ [32], (txE (ET.e (.mk kx ox nx mx cx Ax cpx lx))), [32, 123, 10]] H (.tail .head) (by simp) (by simp; omega)) ?_)
      rintro _ w7 ⟨A2, c2, H⟩
      simp only [List.flatten_cons, List.flatten_nil, List.append_nil, List.cons_append, List.nil_append] at H
      repeat' ((conv => whnf); first | refine ztT ?_ | (refine ztB ?_ ?_ <;> intro _ <;> try (exfalso; omega)) | (refine ztW ?_; clear H; intro _ _ H _) | fail)
      ((conv => whnf); refine Cl.mk (hbody _ hwo _ A2 c2 _ hb1 (Hp.bok H HB (.tail _ (.head _)) (.inl rfl)) (H.ok _ (.tail _ (.head _))) (by simp only [List.length_append, List.length_cons, List.length_nil]; omega)) ?_)
      rintro _ w8 ⟨A3, c3, H'⟩
      replace H := H.upd (c := pr b A2 c2 _) H' rfl (.inl rfl)
      clear H'
      repeat' ((conv => whnf); first | refine ztT ?_ | (refine ztB ?_ ?_ <;> intro _ <;> try (exfalso; omega)) | (refine ztW ?_; clear H; intro _ _ H _) | fail)
      refine Sm.lith (cs := ([tabs o, [125]] : List Bs).flatMap strE) H T.ok (fun p8 w6 H _ => ?_)
      repeat' ((conv => whnf); first | refine ztT ?_ | (refine ztB ?_ ?_ <;> intro _ <;> try (exfalso; omega)) | (refine ztW ?_; clear H; intro _ _ H _) | fail)
      ((conv => whnf); refine Cl.mk (add_h [tabs o, [125]] H (.tail .head) (by simp) (by simp; omega)) ?_)
      rintro _ w7 ⟨A4, c4, H⟩
      simp only [List.flatten_cons, List.flatten_nil, List.append_nil, List.cons_append, List.nil_append] at H
      repeat' ((conv => whnf); first | refine ztT ?_ | (refine ztB ?_ ?_ <;> intro _ <;> try (exfalso; omega)) | (refine ztW ?_; clear H; intro _ _ H _) | fail)
      exact ⟨A4, c4, by simpa only [List.append_assoc, List.cons_append, List.nil_append] using H.sel (Γ' := [pr b A4 c4 _]) [1] rfl⟩
    · have hk : kd = 4 := by assumption
      subst hk
      simp at hbd
      have he : exB (ET.e (.mk kx ox nx mx cx Ax cpx lx)) = true := by simp [hbd]
      have hb1 : stBs (SM.es bd) = true := by simp [hbd]
      have hb2 : stBs (SM.es f) = true := by simp [hbd]
      have hwo : IntKind.i64.wrap ((o : Int) + 1) = ((o + 1 : Nat) : Int) := w64 rfl (by omega) (by omega)
      rw [show stT 4 nm (txE (ET.e (.mk kx ox nx mx cx Ax cpx lx))) o (txB (o + 1) (SM.es bd)) (elseT o (SM.es f) (txH o (SM.es f)) (txB (o + 1) (SM.es f))) = k_if ++ 32 :: ((txE (ET.e (.mk kx ox nx mx cx Ax cpx lx))) ++ 32 :: 123 :: 10 :: (txB (o + 1) (SM.es bd) ++ (tabs o ++ 125 :: elseT o (SM.es f) (txH o (SM.es f)) (txB (o + 1) (SM.es f))))) from rfl] at hlen ⊢
      simp only [List.length_append, List.length_cons, List.length_nil] at hlen
      (((conv => whnf); refine Cl.mk (hexp he _ (H.base2 HB)) ?_); rintro _ _ ⟨rfl, hx⟩; replace H := H.ext hx; clear hx)
      repeat' ((conv => whnf); first | refine ztT ?_ | (refine ztB ?_ ?_ <;> intro _ <;> try (exfalso; omega)) | (refine ztW ?_; clear H; intro _ _ H _) | fail)
      refine Sm.lith (cs := ([k_if ++ [32], (txE (ET.e (.mk kx ox nx mx cx Ax cpx lx))), [32, 123, 10]] : List Bs).flatMap strE) H T.ok (fun p8 w6 H _ => ?_)
      repeat' ((conv => whnf); first | refine ztT ?_ | (refine ztB ?_ ?_ <;> intro _ <;> try (exfalso; omega)) | (refine ztW ?_; clear H; intro _ _ H _) | fail)
      ((conv => whnf); refine Cl.mk (add_h [k_if ++ [32], (txE (ET.e (.mk kx ox nx mx cx Ax cpx lx))), [32, 123, 10]] H (.tail .head) (by simp) (by simp; omega)) ?_)
      rintro _ w7 ⟨A2, c2, H⟩
      simp only [List.flatten_cons, List.flatten_nil, List.append_nil, List.cons_append, List.nil_append] at H
      repeat' ((conv => whnf); first | refine ztT ?_ | (refine ztB ?_ ?_ <;> intro _ <;> try (exfalso; omega)) | (refine ztW ?_; clear H; intro _ _ H _) | fail)
      ((conv => whnf); refine Cl.mk (hbody _ hwo _ A2 c2 _ hb1 (Hp.bok H HB (.tail _ (.head _)) (.inl rfl)) (H.ok _ (.tail _ (.head _))) (by simp only [List.length_append, List.length_cons, List.length_nil]; omega)) ?_)
      rintro _ w8 ⟨A3, c3, H'⟩
      replace H := H.upd (c := pr b A2 c2 _) H' rfl (.inl rfl)
      clear H'
      repeat' ((conv => whnf); first | refine ztT ?_ | (refine ztB ?_ ?_ <;> intro _ <;> try (exfalso; omega)) | (refine ztW ?_; clear H; intro _ _ H _) | fail)
      refine Sm.lith (cs := ([tabs o, [125]] : List Bs).flatMap strE) H T.ok (fun p8 w6 H _ => ?_)
      repeat' ((conv => whnf); first | refine ztT ?_ | (refine ztB ?_ ?_ <;> intro _ <;> try (exfalso; omega)) | (refine ztW ?_; clear H; intro _ _ H _) | fail)
      ((conv => whnf); refine Cl.mk (add_h [tabs o, [125]] H (.tail .head) (by simp) (by simp; omega)) ?_)
      rintro _ w7 ⟨A4, c4, H⟩
      simp only [List.flatten_cons, List.flatten_nil, List.append_nil, List.cons_append, List.nil_append] at H
      by_cases hf0 : f.length = 0
      · rw [else_nil _ _ _ hf0] at hlen ⊢
        repeat' ((conv => whnf); first | refine ztT ?_ | (refine ztB ?_ ?_ <;> intro _ <;> try (exfalso; omega)) | (refine ztW ?_; clear H; intro _ _ H _) | fail)
        all_goals first | (exfalso; omega) | skip
        exact ⟨A4, c4, by simpa only [List.append_assoc, List.cons_append, List.nil_append] using H.sel (Γ' := [pr b A4 c4 _]) [1] rfl⟩
      obtain ⟨x, hx⟩ : ∃ x, f[0]? = some x := ⟨_, List.getElem?_eq_getElem (by omega)⟩
      have hm := List.mem_of_getElem? hx
      have hr1 : RdS SM.enc 10 w7 E f := RdS.from (H.base2 HB) hrf
      have hf1 : 0 < f.length := by omega
      by_cases hone : f.length = 1 ∧ x.kd = 4
      · obtain ⟨hel, hth⟩ := else_one o (txH o (SM.es f)) (txB (o + 1) (SM.es f)) hx hone.1 hone.2
        rw [hel, hth] at hlen ⊢
        simp only [List.length_append, List.length_cons, List.length_nil] at hlen
        have hxh := SM.ht_mem hm
        have hxr := SM.rds_mem hm hrfs
        obtain ⟨hxb, hxn⟩ := stBs_mem hb2 hm
        obtain ⟨kd2, nm2, ⟨k3, o3, n3, m3, c3', A3', cp3, l3⟩, B2, cb2, b2, E2, ce2, f2⟩ := x
        obtain ⟨h11, h44⟩ := hone
        have h44 : kd2 = 4 := h44
        repeat' ((conv => whnf); first | refine ztT ?_ | (refine ztB ?_ ?_ <;> intro _ <;> try (exfalso; omega)) | (refine ztW ?_; clear H; intro _ _ H _) | fail)
        all_goals first | (exfalso; omega) | skip
        refine Sm.lith (cs := ([32 :: (k_else ++ [32])] : List Bs).flatMap strE) H T.ok (fun p8 w6 H _ => ?_)
        repeat' ((conv => whnf); first | refine ztT ?_ | (refine ztB ?_ ?_ <;> intro _ <;> try (exfalso; omega)) | (refine ztW ?_; clear H; intro _ _ H _) | fail)
        ((conv => whnf); refine Cl.mk (add_h [32 :: (k_else ++ [32])] H (.tail .head) (by simp) (by simp; omega)) ?_)
        rintro _ w7 ⟨A5, c5, H⟩
        simp only [List.flatten_cons, List.flatten_nil, List.append_nil, List.cons_append, List.nil_append] at H
        have hr2 : RdS SM.enc 10 w7 E f := RdS.from (H.base2 HB) hrf
        repeat' ((conv => whnf); first | refine ztT ?_ | (refine ztB ?_ ?_ <;> intro _ <;> try (exfalso; omega)) | (refine ztW ?_; clear H; intro _ _ H _) | fail)
        ((conv => whnf); refine Cl.mk (ih (.mk kd2 nm2 (.mk k3 o3 n3 m3 c3' A3' cp3 l3) B2 cb2 b2 E2 ce2 f2) o wb _ b c5 A5 _ (by omega) hG hxr hxb (by omega) (by omega) (Hp.bok H HB (.tail _ (.head _)) (.inl rfl)) (H.ok _ (.tail _ (.head _))) (by simp only [List.length_append, List.length_cons, List.length_nil]; omega)) ?_)
        rintro _ w8 ⟨A6, c6, H'⟩
        replace H := H.upd (c := pr b A5 c5 _) H' rfl (.inl rfl)
        clear H'
        repeat' ((conv => whnf); first | refine ztT ?_ | (refine ztB ?_ ?_ <;> intro _ <;> try (exfalso; omega)) | (refine ztW ?_; clear H; intro _ _ H _) | fail)
        exact ⟨A6, c6, by simpa only [List.append_assoc, List.cons_append, List.nil_append] using H.sel (Γ' := [pr b A6 c6 _]) [1] rfl⟩
      · rw [else_many o (txH o (SM.es f)) (txB (o + 1) (SM.es f)) hx hone] at hlen ⊢
        simp only [List.length_append, List.length_cons, List.length_nil] at hlen
        obtain ⟨kd2, nm2, ⟨k3, o3, n3, m3, c3', A3', cp3, l3⟩, B2, cb2, b2, E2, ce2, f2⟩ := x
        have hone : ¬ (f.length = 1 ∧ kd2 = 4) := hone
        repeat' ((conv => whnf); first | refine ztT ?_ | (refine ztB ?_ ?_ <;> intro _ <;> try (exfalso; omega)) | (refine ztW ?_; clear H; intro _ _ H _) | fail)
        all_goals first | (exfalso; omega) | skip
        all_goals
          refine Sm.lith (cs := ([32 :: (k_else ++ [32, 123, 10])] : List Bs).flatMap strE) H T.ok (fun p8 w6 H _ => ?_)
          repeat' ((conv => whnf); first | refine ztT ?_ | (refine ztB ?_ ?_ <;> intro _ <;> try (exfalso; omega)) | (refine ztW ?_; clear H; intro _ _ H _) | fail)
          ((conv => whnf); refine Cl.mk (add_h [32 :: (k_else ++ [32, 123, 10])] H (.tail .head) (by simp) (by simp; omega)) ?_)
          rintro _ w7 ⟨A5, c5, H⟩
          simp only [List.flatten_cons, List.flatten_nil, List.append_nil, List.cons_append, List.nil_append] at H
          repeat' ((conv => whnf); first | refine ztT ?_ | (refine ztB ?_ ?_ <;> intro _ <;> try (exfalso; omega)) | (refine ztW ?_; clear H; intro _ _ H _) | fail)
          ((conv => whnf); refine Cl.mk (hbody2 _ hwo _ A5 c5 _ hb2 (Hp.bok H HB (.tail _ (.head _)) (.inl rfl)) (H.ok _ (.tail _ (.head _))) (by simp only [List.length_append, List.length_cons, List.length_nil]; omega)) ?_)
          rintro _ w8 ⟨A6, c6, H'⟩
          replace H := H.upd (c := pr b A5 c5 _) H' rfl (.inl rfl)
          clear H'
          repeat' ((conv => whnf); first | refine ztT ?_ | (refine ztB ?_ ?_ <;> intro _ <;> try (exfalso; omega)) | (refine ztW ?_; clear H; intro _ _ H _) | fail)
          refine Sm.lith (cs := ([tabs o, [125]] : List Bs).flatMap strE) H T.ok (fun p8 w6 H _ => ?_)
          repeat' ((conv => whnf); first | refine ztT ?_ | (refine ztB ?_ ?_ <;> intro _ <;> try (exfalso; omega)) | (refine ztW ?_; clear H; intro _ _ H _) | fail)
          ((conv => whnf); refine Cl.mk (add_h [tabs o, [125]] H (.tail .head) (by simp) (by simp; omega)) ?_)
          rintro _ w7 ⟨A7, c7, H⟩
          simp only [List.flatten_cons, List.flatten_nil, List.append_nil, List.cons_append, List.nil_append] at H
          repeat' ((conv => whnf); first | refine ztT ?_ | (refine ztB ?_ ?_ <;> intro _ <;> try (exfalso; omega)) | (refine ztW ?_; clear H; intro _ _ H _) | fail)
          exact ⟨A7, c7, by simpa only [List.append_assoc, List.cons_append, List.nil_append] using H.sel (Γ' := [pr b A7 c7 _]) [1] rfl⟩
    · exfalso
      simp_all
end Go.Proofs.YtfnjodpehomgfaaGreatDoor
namespace Go.Proofs.YtfnjodpehomgfaaGreatDoor
open Go Go.Sh Go.Tx
attribute [local irreducible] Blk Ext RdS
def srcOf (R : Res (List Fnc)) : List Fnc := match R with | .ok l _ => l | _ => []
def errOf (R : Res (List Fnc)) : Int := match R with | .err e _ => e | _ => 0
def plcOf (R : Res (List Fnc)) : Nat := match R with | .err _ p => p | _ => 0
def OkQ (R : Res (List Fnc)) (w : World) (v : Value) (w' : World) : Prop :=
  ∃ m A c, m.map FM.e = srcOf R ∧ v = .tuple #[.agg #[.slice A m.length c], .agg #[.int .i64 (errOf R), .int .i64 (plcOf R : Int)]] ∧ m.length ≤ 2000000 ∧ Hp nw w w' [qu FM.enc 3 34 A c m, fns m]
theorem okq {l : Bs} {w w' : World} {v : Value} (h : OkP l w v w') : OkQ (PR l) w v w' := by
  rcases h with ⟨m, ts, A, c, h1, h2, h3, h4⟩ | ⟨e, p, h1, h2, h3⟩
  · exact ⟨m, A, c, by rw [h1]; rfl, by rw [h1]; exact h2, h3, h4⟩
  · refine ⟨[], none, 0, by rw [h1]; rfl, by rw [h1]; exact h2, by simp, Hp.nil (Hp.fns0 ((Hp.begin nw w).ext h3)) FM.enc 3 34⟩
end Go.Proofs.YtfnjodpehomgfaaGreatDoor
namespace Go.Proofs.YtfnjodpehomgfaaGreatDoor
open Go Go.Sh Go.Tx
attribute [local irreducible] Blk Ext RdS
def FM.Rd (w : World) (f : FM) : Prop := RdS strE 1 w f.P f.params ∧ RdS SM.enc 10 w f.B f.body ∧ SM.Rds w f.body ∧ f.params.length ≤ 9000000 ∧ f.params.length ≤ f.cp ∧ f.body.length ≤ 9000000 ∧ f.name.length ≤ 9000000 ∧ ∀ s ∈ f.params, s.length ≤ 9000000
theorem FM.Rd.ext {w w' : World} {f : FM} (h : FM.Rd w f) (e : Ext w w') : FM.Rd w' f := ⟨RdS.from e h.1, RdS.from e h.2.1, SM.Rds.ext e h.2.2.1, h.2.2.2⟩
def FM.Fits (f : FM) : Prop := nSs (SM.es f.body) ≤ 2147483648 ∧ SM.hts f.body + 1 ≤ 1099511627776
def printP (l : List Fnc) : Bs × Int := if treeB l = true then (if errOf (PR (whole l)) = 0 then (whole l, 0) else ([], errOf (PR (whole l)))) else ([], 145)
theorem whole_take {m : List FM} {i : Nat} {f : FM} (h : m[i]? = some f) : whole ((m.take (i + 1)).map FM.e) = whole ((m.take i).map FM.e) ++ txF f.e := by
  obtain ⟨h1, h2⟩ := List.getElem?_eq_some_iff.1 h
  rw [List.take_succ_eq_append_getElem h1, List.map_append, whole, List.flatMap_append, h2]
  simp [whole]
theorem whole_le (m : List FM) (i : Nat) : (whole ((m.take i).map FM.e)).length ≤ (whole (m.map FM.e)).length := by
  conv => rhs; rw [← List.take_append_drop i m, List.map_append, whole, List.flatMap_append, List.length_append]
  unfold whole
  omega
set_option maxHeartbeats 4000000 in
theorem Print_c (m : List FM) (A : Option Addr) (c : Nat) (w : World) (hG : Rp w) (hr : RdS FM.enc 3 w A m) (hrs : ∀ f ∈ m, FM.Rd w f) (hml : m.length ≤ 9000000) (hfit : treeB (m.map FM.e) = true → (whole (m.map FM.e)).length ≤ 140737488355328 ∧ ∀ f ∈ m, FM.Fits f) :
    Cl Tryz.prog 19 #[.agg #[.slice A m.length c]] w (fun v w' => v = .tuple #[.string (bs (printP (m.map FM.e)).1), .int .i64 (printP (m.map FM.e)).2] ∧ Ext w w') (fun _ _ => False) := by
  have hK := hG.rg.tb.kw
  have hO := hG.rg.tb.nm
  refine calls_ex (args := [.agg #[.slice A m.length c]]) T.ok Tryz.func19 rfl rfl rfl rfl ?_
  have H := Hp.begin nw w
  refine Sq.mk ?_
  ((conv => whnf); refine Al.hp H ?_; clear H; intro p1 _ H _)
  by_cases hm0 : m = []
  · subst hm0
    repeat' ((conv => whnf); first | refine ztT ?_ | (refine ztB ?_ ?_ <;> intro _ <;> try (exfalso; omega)) | (refine ztW ?_; clear H; intro _ _ H _) | fail)
    all_goals first | (exfalso; omega) | skip
    exact ⟨rfl, H.e⟩
  have hml0 : 0 < m.length := List.length_pos_iff.2 hm0
  repeat' ((conv => whnf); first | refine ztT ?_ | (refine ztB ?_ ?_ <;> intro _ <;> try (exfalso; omega)) | (refine ztW ?_; clear H; intro _ _ H _) | fail)
  all_goals first | (exfalso; omega) | skip
  refine Lp.g0 T.ok (σ := Nat) (fun i => [(19, .int .i64 (i : Int)), (18, .int .i64 (m.length : Int)), (17, .slice A m.length c), (1, .pointer (some ⟨p1, 0, none⟩))])
    (fun i w' => i ≤ m.length ∧ ((m.take i).map FM.e).all fnB = true ∧ Hp nw w w' [bk p1 24 [.slice A m.length c]]) (fun i _ => m.length - i) 0 rfl ⟨rfl, rfl, rfl, rfl, trivial⟩ ⟨Nat.zero_le _, rfl, H⟩ ?_
  clear H
  rintro i w5 ⟨hi, hall, H⟩
  have hr1 := RdS.from H.e hr
  by_cases hlt : i < m.length
  · obtain ⟨f, hf⟩ : ∃ x, m[i]? = some x := ⟨_, List.getElem?_eq_getElem hlt⟩
    have hfm := List.mem_of_getElem? hf
    obtain ⟨q1, q2, q3, q4, q5, q6, q7, q8⟩ := hrs f hfm
    have hno : fnB f.e = false → printP (m.map FM.e) = ([], 145) := fun h => by
      have : treeB (m.map FM.e) = false := by
        unfold treeB
        rw [Bool.and_eq_false_iff]
        exact .inr (List.all_eq_false.2 ⟨f.e, List.mem_map_of_mem hfm, by rw [h]; simp⟩)
      unfold printP
      rw [this]; rfl
    have hyes : fnB f.e = true → ((m.take (i + 1)).map FM.e).all fnB = true := fun h => by
      obtain ⟨g1, g2⟩ := List.getElem?_eq_some_iff.1 hf
      rw [List.take_succ_eq_append_getElem g1, List.map_append, List.all_append, hall, g2]
      simp [h]
    obtain ⟨fn, P, cp, ps, B, cb, bd⟩ := f
    repeat' (first | ((conv => whnf); first | refine ztT ?_ | (refine ztB ?_ ?_ <;> intro _ <;> try (exfalso; omega)) | (refine ztA ?_; clear H; intro _ _ H _) | fail) | (((conv => whnf); refine Cl.mk (isName_c fn _ (RdS.from H.e hK) q7) ?_); rintro _ _ ⟨rfl, hx⟩; replace H := H.ext hx; clear hx) | (((conv => whnf); refine Cl.mk (allNames_c P cp ps _ (RdS.from H.e hK) (RdS.from H.e q1) q4 q8) ?_); rintro _ _ ⟨rfl, hx⟩; replace H := H.ext hx; clear hx) | (((conv => whnf); refine Cl.mk (isBody_of (isStmt_c _) B cb bd _ (Nat.le_refl _) (RdS.from H.e hK) (RdS.from H.e hO) (RdS.from H.e q2) (SM.Rds.ext H.e q3) q6) ?_); rintro _ _ ⟨rfl, hx⟩; replace H := H.ext hx; clear hx))
    · have h : fnB (FM.e ⟨fn, P, cp, ps, B, cb, bd⟩) = true := by
        show (isNameB fn && ps.all isNameB && stBs (SM.es bd)) = true
        rw [(by assumption : isNameB fn = true), (by assumption : ps.all isNameB = true), (by assumption : stBs (SM.es bd) = true)]; rfl
      repeat' ((conv => whnf); first | refine ztT ?_ | (refine ztB ?_ ?_ <;> intro _ <;> try (exfalso; omega)) | (refine ztW ?_; clear H; intro _ _ H _) | fail)
      exact ⟨i + 1, ⟨at_int (m := ((i + 1 : Nat) : Int)) rfl (w64 (by simp) (by omega) (by omega)), rfl, rfl, rfl, trivial⟩, rfl, ⟨by omega, hyes h, H.sel [1] rfl⟩, by omega⟩
    all_goals
      have h : fnB (FM.e ⟨fn, P, cp, ps, B, cb, bd⟩) = false := by
        show (isNameB fn && ps.all isNameB && stBs (SM.es bd)) = false
        first | (rw [(by assumption : isNameB fn = false)]; rfl) | (rw [(by assumption : ps.all isNameB = false)]; simp) | (rw [(by assumption : stBs (SM.es bd) = false)]; simp)
      repeat' ((conv => whnf); first | refine ztT ?_ | (refine ztB ?_ ?_ <;> intro _ <;> try (exfalso; omega)) | (refine ztW ?_; clear H; intro _ _ H _) | fail)
      refine ⟨?_, H.e⟩
      rw [hno h]; rfl
  · rw [List.take_of_length_le (by omega)] at hall
    have htr : treeB (m.map FM.e) = true := by
      unfold treeB
      rw [hall]
      simp [hm0]
    obtain ⟨hwl, hfs⟩ := hfit htr
    have hfb : ∀ f ∈ m, fnB f.e = true := fun f hf => List.all_eq_true.1 hall _ (List.mem_map_of_mem hf)
    have hres : printP (m.map FM.e) = if errOf (PR (whole (m.map FM.e))) = 0 then (whole (m.map FM.e), 0) else ([], errOf (PR (whole (m.map FM.e)))) := by unfold printP; rw [if_pos htr]
    rw [hres]
    clear hall hfit
    repeat' ((conv => whnf); first | refine ztT ?_ | (refine ztB ?_ ?_ <;> intro _ <;> try (exfalso; omega)) | (refine ztW ?_; clear H; intro _ _ H _) | fail)
    ((conv => whnf); refine Al.hp H ?_; clear H; intro pb _ H _)
    replace H := Hp.prN (.inl rfl) (Hp.swap (Hp.ow0 H))
    repeat' ((conv => whnf); first | refine ztT ?_ | (refine ztB ?_ ?_ <;> intro _ <;> try (exfalso; omega)) | (refine ztW ?_; clear H; intro _ _ H _) | fail)
    have HB0 : BaseOk nw w w := ⟨Ext.refl w, fun k h => h.elim⟩
    refine Lp.g0 T.ok (σ := Nat × Option Addr × Nat) (fun s => [(45, .int .i64 (s.1 : Int)), (44, .int .i64 (m.length : Int)), (43, .slice A m.length c), (6, .pointer (some ⟨pb, 0, none⟩))])
      (fun s w' => s.1 ≤ m.length ∧ Hp nw w w' [pr pb s.2.1 s.2.2 (whole ((m.take s.1).map FM.e))]) (fun s _ => m.length - s.1) (0, none, 0) rfl ⟨rfl, rfl, rfl, rfl, trivial⟩ ⟨Nat.zero_le _, H.sel [0] rfl⟩ ?_
    clear H hr1
    rintro ⟨j, A1, c1⟩ w6 ⟨hj, H⟩
    replace hj : j ≤ m.length := hj
    dsimp only at H
    have hr1 := RdS.from H.e hr
    by_cases hlt2 : j < m.length
    · obtain ⟨f, hf⟩ : ∃ x, m[j]? = some x := ⟨_, List.getElem?_eq_getElem hlt2⟩
      have hfm := List.mem_of_getElem? hf
      obtain ⟨q1, q2, q3, q4, q5, q6, q7, q8⟩ := hrs f hfm
      obtain ⟨z1, z2⟩ := hfs f hfm
      have hfbb := hfb f hfm
      have hwt := whole_take hf
      have hle := whole_le m (j + 1)
      rw [hwt] at hle
      obtain ⟨fn, P, cp, ps, B, cb, bd⟩ := f
      dsimp only at q1 q2 q3 q4 q5 q6 q7 q8 z1 z2
      have hfbs : isNameB fn = true ∧ ps.all isNameB = true ∧ stBs (SM.es bd) = true := by simpa [fnB, FM.e, and_assoc] using hfbb
      have htx : txF (FM.e ⟨fn, P, cp, ps, B, cb, bd⟩) = k_fn ++ 32 :: (fn ++ 40 :: (joinC ps ++ 41 :: 32 :: 123 :: 10 :: (txB 1 (SM.es bd) ++ [125, 10]))) := rfl
      rw [htx] at hle hwt
      simp only [List.length_append, List.length_cons, List.length_nil] at hle
      repeat' ((conv => whnf); first | refine ztT ?_ | (refine ztB ?_ ?_ <;> intro _ <;> try (exfalso; omega)) | (refine ztW ?_; clear H; intro _ _ H _) | fail)
      ((conv => whnf); refine Al.hp H ?_; clear H; intro p8 _ H _)
      repeat' ((conv => whnf); first | refine ztT ?_ | (refine ztB ?_ ?_ <;> intro _ <;> try (exfalso; omega)) | (refine ztW ?_; clear H; intro _ _ H _) | fail)
      (conv => whnf)
      refine Dr.ch T.ok mixed [0, 1, 2, 3, 4] [5, 6, 7] (by kernel_rfl) rfl rfl (fun w' => Blk w' p8 34 [.string (bs fn), .slice P ps.length cp, .slice B bd.length cb]) (fun w1 eT _ => ?_)
      replace H := H.ext eT
      repeat' ((conv => whnf); first | refine QLd1.own (fun _ hw => hw) ?_ | refine QLd.own (fun _ hw => hw) ?_)
      (conv => whnf)
      refine ⟨H.blk 0 rfl, ?_⟩
      (((conv => whnf); refine Cl.mk (joins_c P cp ps _ (RdS.from H.e q1) q5 (by omega) (by omega)) ?_); rintro _ _ ⟨rfl, hx⟩; replace H := H.ext hx; clear hx)
      (conv => whnf)
      refine ⟨H.blk 0 rfl, ?_⟩
      refine Sm.lith (cs := ([k_fn ++ [32], fn, [40], joinC ps, [41, 32, 123, 10]] : List Bs).flatMap strE) H T.ok (fun p9 w7 H _ => ?_)
      (conv => whnf)
      refine ⟨H.blk 1 rfl, ?_⟩
      ((conv => whnf); refine Cl.mk (add_h [k_fn ++ [32], fn, [40], joinC ps, [41, 32, 123, 10]] H (.tail .head) (by simp) (by simp only [List.flatten_cons, List.flatten_nil, List.append_nil, List.length_append, List.length_cons, List.length_nil]; omega)) ?_)
      rintro _ w8 ⟨A2, c2, H⟩
      simp only [List.flatten_cons, List.flatten_nil, List.append_nil, List.cons_append, List.nil_append] at H
      repeat' ((conv => whnf); first | refine ztT ?_ | (refine ztB ?_ ?_ <;> intro _ <;> try (exfalso; omega)) | (refine ztW ?_; clear H; intro _ _ H _) | fail)
      ((conv => whnf); refine Cl.mk (body_of (stmt_c _) bd B cb 1 w _ pb c2 A2 _ (Nat.le_refl _) hG q2 q3 q6 hfbs.2.2 z1 (by omega) (Hp.bok H HB0 (.tail _ (.head _)) (.inl rfl)) (H.ok _ (.tail _ (.head _))) (by simp only [List.length_append, List.length_cons, List.length_nil]; omega)) ?_)
      rintro _ w9 ⟨A3, c3, H'⟩
      replace H := H.upd (c := pr pb A2 c2 _) H' rfl (.inl rfl)
      clear H'
      repeat' ((conv => whnf); first | refine ztT ?_ | (refine ztB ?_ ?_ <;> intro _ <;> try (exfalso; omega)) | (refine ztW ?_; clear H; intro _ _ H _) | fail)
      refine Sm.lith (cs := ([[125, 10]] : List Bs).flatMap strE) H T.ok (fun p10 w10 H _ => ?_)
      repeat' ((conv => whnf); first | refine ztT ?_ | (refine ztB ?_ ?_ <;> intro _ <;> try (exfalso; omega)) | (refine ztW ?_; clear H; intro _ _ H _) | fail)
      ((conv => whnf); refine Cl.mk (add_h [[125, 10]] H (.tail .head) (by simp) (by simp only [List.flatten_cons, List.flatten_nil, List.append_nil, List.length_append, List.length_cons, List.length_nil]; omega)) ?_)
      rintro _ w11 ⟨A4, c4, H⟩
      simp only [List.flatten_cons, List.flatten_nil, List.append_nil, List.cons_append, List.nil_append] at H
      repeat' ((conv => whnf); first | refine ztT ?_ | (refine ztB ?_ ?_ <;> intro _ <;> try (exfalso; omega)) | (refine ztW ?_; clear H; intro _ _ H _) | fail)
      refine ⟨(j + 1, A4, c4), ⟨at_int (m := ((j + 1 : Nat) : Int)) rfl (w64 (by simp) (by omega) (by omega)), rfl, rfl, rfl, trivial⟩, rfl, ⟨hlt2, ?_⟩, (show m.length - (j + 1) < m.length - j by omega)⟩
      show Hp nw w _ [pr pb A4 c4 (whole ((m.take (j + 1)).map FM.e))]
      rw [hwt]
      simpa only [List.append_assoc, List.cons_append, List.nil_append] using H.sel (Γ' := [pr pb A4 c4 _]) [1] rfl
    · rw [List.take_of_length_le (by omega)] at H
      have hwn : whole (m.map FM.e) ≠ [] := by
        match m, hm0 with
        | f :: r, _ => simp [whole, txF, k_fn]
      generalize hW : whole (m.map FM.e) = W0 at *
      obtain ⟨x, hx, hbl, how, hne⟩ := (H.ok _ (.head _)).holds
      repeat' ((conv => whnf); first | refine ztT ?_ | (refine ztB ?_ ?_ <;> intro _ <;> try (exfalso; omega)) | (refine ztW ?_; clear H; intro _ _ H _) | fail)
      ((conv => whnf); refine Cl.mk (string_c pb x A1 c1 W0 _ hwn hbl how) ?_)
      rintro _ w7 ⟨rfl, H'⟩
      replace H : Hp nw w w7 [] := Hp.frame (Γ1 := [pr pb A1 c1 W0]) (Γ2 := []) (Γ' := []) (S' := (pr pb A1 c1 W0).fp) H (by simp) (fun k h => ⟨_, .head _, h⟩) H' (by simp)
      clear H'
      repeat' ((conv => whnf); first | refine ztT ?_ | (refine ztB ?_ ?_ <;> intro _ <;> try (exfalso; omega)) | (refine ztW ?_; clear H; intro _ _ H _) | fail)
      ((conv => whnf); refine Cl.mk (Parse_c W0 _ (hG.rg.ext H.e)) ?_)
      intro v2 w8 q9
      obtain ⟨m2, A2, c2, e2, rfl, l2, H'⟩ := okq q9
      clear q9
      replace H := H.fr0L H' (fun c hc => by simp only [List.mem_cons, List.not_mem_nil, or_false] at hc; rcases hc with rfl | rfl <;> exact .inl rfl)
      clear H'
      generalize hE : errOf (PR W0) = E0 at *
      generalize hP : plcOf (PR W0) = P0 at *
      repeat' ((conv => whnf); first | refine ztT ?_ | (refine ztB ?_ ?_ <;> intro _ <;> try (exfalso; omega)) | (refine ztW ?_; clear H; intro _ _ H _) | fail)
      ((conv => whnf); refine Al.hp H ?_; clear H; intro p10 _ H _)
      ((conv => whnf); refine Al.hp H ?_; clear H; intro p11 _ H _)
      repeat' ((conv => whnf); first | refine ztT ?_ | (refine ztB ?_ ?_ <;> intro _ <;> try (exfalso; omega)) | (refine ztW ?_; clear H; intro _ _ H _) | fail)
      · rename_i h0
        rw [if_neg h0]
        ((conv => whnf); refine Dr.quiet T.ok mixed (by kernel_rfl) (fun W hW => ?_))
        repeat' ((conv => whnf); first | refine ztQ ?_ | (refine ztB ?_ ?_ <;> intro _ <;> try (exfalso; omega)) | fail)
        (intro _ eT; replace H := H.ext eT; clear hW eT)
        repeat' ((conv => whnf); first | refine ztT ?_ | (refine ztB ?_ ?_ <;> intro _ <;> try (exfalso; omega)) | (refine ztW ?_; clear H; intro _ _ H _) | fail)
        exact ⟨rfl, H.e⟩
      · rename_i h0
        rw [if_pos h0]
        repeat' ((conv => whnf); first | refine ztT ?_ | (refine ztB ?_ ?_ <;> intro _ <;> try (exfalso; omega)) | (refine ztW ?_; clear H; intro _ _ H _) | fail)
        exact ⟨rfl, H.e⟩
end Go.Proofs.YtfnjodpehomgfaaGreatDoor
namespace Go.Tx
def Po {α : Type} (r : Res α) (Q : α → List Tk → Prop) : Prop := match r with
  | .ok a ts => Q a ts
  | _ => True
theorem Po.bind {α β : Type} {r : Res α} {k : α → List Tk → Res β} {Q' : α → List Tk → Prop} {Q : β → List Tk → Prop} (h : Po r Q') (hk : ∀ a ts, Q' a ts → Po (k a ts) Q) : Po (r.bind k) Q := by
  cases r with
  | out => exact trivial
  | err e p => exact trivial
  | ok a ts => exact hk a ts h
theorem Po.mono {α : Type} {r : Res α} {Q' Q : α → List Tk → Prop} (h : Po r Q') (hk : ∀ a ts, Q' a ts → Q a ts) : Po r Q := by
  cases r with
  | out => exact trivial
  | err e p => exact trivial
  | ok a ts => exact hk a ts h
end Go.Tx
namespace Go.Tx
section
end
def nP : List Fnc → Nat
  | [] => 0
  | f :: r => (f.params.length + nSs f.body + 1) + nP r
end Go.Tx
namespace Go.Tx
theorem tabs_ln (n : Nat) : (tabs n).length = n := by simp [tabs]
theorem stT_len {kd : Int} {nm e b els : Bs} {o : Nat} (hn : nm.length ≤ 24) : (stT kd nm e o b els).length ≤ 60 + e.length + b.length + o + els.length := by
  have h : k_let.length = 3 ∧ k_spawn.length = 5 ∧ k_sync.length = 4 ∧ k_break.length = 5 ∧ k_continue.length = 8 ∧ k_do.length = 2 ∧ k_return.length = 6 ∧ k_while.length = 5 ∧ k_if.length = 2 := by decide
  have ht := tabs_ln o
  unfold stT
  repeat' split
  all_goals (simp only [List.length_append, List.length_cons, List.length_nil]; omega)
theorem stB_name {kd : Int} {nm : Bs} {e : Ex} {b f : List St} (h : stB (.mk kd nm e b f) = true) : nm.length ≤ 24 := by
  simp only [stB] at h
  repeat' split at h
  all_goals first
    | (simp only [Bool.and_eq_true, decide_eq_true_eq] at h; have := name_len h.1.1.1; omega)
    | (simp only [Bool.and_eq_true, decide_eq_true_eq] at h; have := name_len h.1.1.1.1; omega)
    | (simp only [Bool.and_eq_true, decide_eq_true_eq] at h; simp_all)
    | simp at h
theorem stB_ex {kd : Int} {nm : Bs} {e : Ex} {b f : List St} (h : stB (.mk kd nm e b f) = true) : exB e = true ∨ (stT kd nm (txE e) = stT kd nm []) := by
  simp only [stB] at h
  repeat' split at h
  all_goals first
    | (rename_i hk; rcases hk with rfl | rfl | rfl <;> exact .inr rfl)
    | (simp only [Bool.and_eq_true] at h; exact .inl (by simp_all))
    | simp at h
theorem stB_kids {kd : Int} {nm : Bs} {e : Ex} {b f : List St} (h : stB (.mk kd nm e b f) = true) : stBs b = true ∧ stBs f = true := by
  have nil : ∀ l : List St, decide (l.length = 0) = true → stBs l = true := fun l hl => by
    have : l = [] := List.eq_nil_of_length_eq_zero (of_decide_eq_true hl)
    subst this; rfl
  simp only [stB] at h
  repeat' split at h
  all_goals first
    | (simp only [Bool.and_eq_true] at h; exact ⟨by first | exact nil _ h.1.2 | exact h.1.2 | exact h.1.1.2 | exact nil _ h.1.1.2, by first | exact nil _ h.2 | exact h.2⟩)
    | simp at h
mutual
theorem txS_len (D : Nat) : ∀ (s : St) (o : Nat), stB s = true → rgS s → o + nS s ≤ D → (txS o s).length + (o + 1) ≤ nS s * (100 + 3 * D)
  | .mk kd nm e b f, o, hb, hr, hD => by
    have hn := stB_name hb
    obtain ⟨hb1, hb2⟩ := stB_kids hb
    simp only [nS] at hD ⊢
    have h1 := txB_len D b (o + 1) hb1 hr.2.1 (by omega)
    have h2 := txB_len D f (o + 1) hb2 hr.2.2 (by omega)
    have h3 := txH_len D f o hb2 hr.2.2 (by omega)
    have hE : (txE e).length ≤ nE e * (100 + 3 * D) ∨ stT kd nm (txE e) = stT kd nm [] := by
      rcases stB_ex hb with h | h
      · have := txE_len e h hr.1
        refine .inl (Nat.le_trans (Nat.le_trans (Nat.le_of_lt (by omega)) (by omega : 80 * nE e ≤ nE e * 100)) (Nat.mul_le_mul_left _ (by omega)))
      · exact .inr h
    have helse : (elseT o f (txH o f) (txB (o + 1) f)).length ≤ 10 + o + nSs f * (100 + 3 * D) := by
      have ht := tabs_ln o
      have hk : k_else.length = 4 := rfl
      match f, h2, h3 with
      | [], _, _ => simp [elseT]
      | .mk k2 _ _ _ _ :: r, h2, h3 =>
        simp only [elseT]
        split
        · simp only [List.length_append, List.length_cons]
          omega
        · simp only [List.length_append, List.length_cons, List.length_nil]
          omega
    have hsum : (nE e + nSs b + nSs f + 1) * (100 + 3 * D) = nE e * (100 + 3 * D) + nSs b * (100 + 3 * D) + nSs f * (100 + 3 * D) + (100 + 3 * D) := by
      rw [Nat.add_mul, Nat.add_mul, Nat.add_mul, Nat.one_mul]
    rw [hsum]
    simp only [txS]
    rcases hE with hE | hE
    · have := stT_len (kd := kd) (nm := nm) (e := txE e) (b := txB (o + 1) b) (els := elseT o f (txH o f) (txB (o + 1) f)) (o := o) hn
      omega
    · rw [hE]
      have := stT_len (kd := kd) (nm := nm) (e := []) (b := txB (o + 1) b) (els := elseT o f (txH o f) (txB (o + 1) f)) (o := o) hn
      simp only [List.length_nil] at this
      omega
theorem txB_len (D : Nat) : ∀ (l : List St) (o : Nat), stBs l = true → rgSs l → o + nSs l ≤ D → (txB o l).length ≤ nSs l * (100 + 3 * D)
  | [], o, _, _, _ => by simp [txB]
  | s :: r, o, hb, hr, hD => by
    simp only [stBs, Bool.and_eq_true] at hb
    simp only [nSs] at hD ⊢
    have h1 := txS_len D s o hb.1 hr.1 (by omega)
    have h2 := txB_len D r o hb.2 hr.2 (by omega)
    have ht := tabs_ln o
    rw [Nat.add_mul]
    simp only [txB, List.length_append, List.length_cons]
    omega
theorem txH_len (D : Nat) : ∀ (l : List St) (o : Nat), stBs l = true → rgSs l → o + nSs l ≤ D → (txH o l).length ≤ nSs l * (100 + 3 * D)
  | [], o, _, _, _ => by simp [txH]
  | s :: r, o, hb, hr, hD => by
    simp only [stBs, Bool.and_eq_true] at hb
    simp only [nSs] at hD ⊢
    have h1 := txS_len D s o hb.1 hr.1 (by omega)
    rw [Nat.add_mul]
    simp only [txH]
    omega
end
theorem names_len : ∀ l : List Bs, l.all isNameB = true → (joinC l).length ≤ 26 * l.length
  | l, h => by
    have h1 := joinC_len l
    have h2 : ∀ l : List Bs, l.all isNameB = true → (l.map (fun x => x.length + 2)).sum ≤ 26 * l.length := by
      intro l
      induction l with
      | nil => simp
      | cons x r ih =>
        intro h
        simp only [List.all_cons, Bool.and_eq_true] at h
        have := name_len h.1
        have := ih h.2
        simp only [List.map_cons, List.sum_cons, List.length_cons]
        omega
    exact Nat.le_trans h1 (h2 l h)
theorem whole_len (N : Nat) : ∀ l : List Fnc, l.all fnB = true → (∀ f ∈ l, rgSs f.body) → nP l ≤ N → (whole l).length ≤ nP l * (200 + 3 * (N + 1))
  | [], _, _, _ => by simp [whole]
  | f :: r, hb, hr, hN => by
    simp only [List.all_cons, Bool.and_eq_true] at hb
    simp only [nP] at hN ⊢
    have ih := whole_len N r hb.2 (fun x hx => hr x (by simp [hx])) (by omega)
    have hf := hb.1
    simp only [fnB, Bool.and_eq_true] at hf
    have h1 := name_len hf.1.1
    have h2 := names_len f.params hf.1.2
    have h3 := txB_len (N + 1) f.body 1 hf.2 (hr f (by simp)) (by omega)
    have hk : k_fn.length = 2 := rfl
    have hw : whole (f :: r) = txF f ++ whole r := rfl
    have hm : nSs f.body * (100 + 3 * (N + 1)) ≤ nSs f.body * (200 + 3 * (N + 1)) := Nat.mul_le_mul_left _ (by omega)
    have hp : 26 * f.params.length ≤ f.params.length * (200 + 3 * (N + 1)) := by rw [Nat.mul_comm]; exact Nat.mul_le_mul_left _ (by omega)
    rw [hw, Nat.add_mul, Nat.add_mul, Nat.add_mul, Nat.one_mul]
    simp only [txF, List.length_append, List.length_cons, List.length_nil]
    omega
theorem whole_fit {l : List Fnc} (hb : l.all fnB = true) (hr : ∀ f ∈ l, rgSs f.body) (hN : nP l ≤ 2097152) : (whole l).length ≤ 140737488355328 := by
  have h1 := whole_len 2097152 l hb hr hN
  have h2 : nP l * (200 + 3 * (2097152 + 1)) ≤ 2097152 * (200 + 3 * (2097152 + 1)) := Nat.mul_le_mul_right _ hN
  omega
theorem nP_mem {f : Fnc} : ∀ {l : List Fnc}, f ∈ l → nSs f.body ≤ nP l
  | [], h => by simp at h
  | g :: r, h => by
    simp only [nP]
    rcases List.mem_cons.1 h with rfl | h
    · omega
    · have := nP_mem h; omega
end Go.Tx
namespace Go.Proofs.YtfnjodpehomgfaaGreatDoor
open Go Go.Sh Go.Tx
attribute [local irreducible] Blk Ext RdS
theorem hd_len {kd o n : Int} {nm cb : Bs} {m : Nat} (h : hdB kd o n nm cb m = true) : nm.length ≤ 24 ∧ cb.length ≤ 24 := by
  unfold hdB at h
  repeat' split at h
  all_goals try simp only [Bool.and_eq_true, decide_eq_true_eq] at h
  · exact ⟨by rw [h.1.2]; simp, by rw [h.2]; simp⟩
  · exact ⟨name_len h.2, by rw [h.1.2]; simp⟩
  · exact ⟨by rw [h.1.2]; simp, by rw [h.2]; simp⟩
  · exact ⟨by rw [h.1.2]; simp, by rw [h.2]; simp⟩
  · exact ⟨by rw [h.1.2]; simp, by rw [h.2]; simp⟩
  · exact ⟨name_len h.2, by rw [h.1.2]; simp⟩
  · exact ⟨name_len h.1.2, name_len h.2⟩
  · exact ⟨name_len h.2, by rw [h.1.2]; simp⟩
  · cases h
mutual
theorem ET.Ok.rd {w : World} : ∀ {t : ET}, ET.Ok w t → rgE t.e → exB t.e = true → ET.Rd w t
  | .mk kd o n nm cb A c ks, h, hr, hb => by
    have hb : (exBs (ET.es ks) && hdB kd o n nm cb (ET.es ks).length) = true := hb
    simp only [Bool.and_eq_true] at hb
    obtain ⟨h1, h2⟩ := hd_len hb.2
    exact ⟨h.1.rd, ET.Oks.rd h.2.1 hr.2 hb.1, by have := h.2.2; omega, by omega, by omega, hr.1⟩
theorem ET.Oks.rd {w : World} : ∀ {l : List ET}, ET.Oks w l → rgEs (ET.es l) → exBs (ET.es l) = true → ET.Rds w l
  | [], _, _, _ => trivial
  | x :: r, h, hr, hb => by
    have hb : (exB x.e && exBs (ET.es r)) = true := hb
    simp only [Bool.and_eq_true] at hb
    exact ⟨ET.Ok.rd h.1 hr.1 hb.1, ET.Oks.rd h.2 hr.2 hb.2⟩
end
theorem ET.Ok.rd0 {w : World} {t : ET} (h : ET.Ok w t) (hz : zeroB t.e = true) : ET.Rd w t := by
  obtain ⟨kd, o, n, nm, cb, A, c, ks⟩ := t
  have hz : (decide (kd = 0) && decide (o = 0) && decide (n = 0) && decide (nm = []) && decide (cb = []) && decide ((ET.es ks).length = 0)) = true := hz
  simp only [Bool.and_eq_true, decide_eq_true_eq] at hz
  obtain ⟨⟨⟨⟨⟨rfl, rfl⟩, rfl⟩, rfl⟩, rfl⟩, hk⟩ := hz
  rw [ET.es_len] at hk
  have : ks = [] := List.eq_nil_of_length_eq_zero hk
  subst this
  exact ⟨h.1.rd, trivial, by simp, by simp, by simp, by decide, by decide⟩
mutual
theorem SM.Ok.rd {w : World} : ∀ {s : SM}, SM.Ok w s → rgS s.e → stB s.e = true → SM.Rd w s
  | .mk kd nm e B cb b E ce f, h, hr, hb => by
    have hb : stB (.mk kd nm e.e (SM.es b) (SM.es f)) = true := hb
    obtain ⟨h1, h2⟩ := stB_kids hb
    have hn := stB_name hb
    have he : ET.Rd w e := by
      have hz : exB e.e = true ∨ zeroB e.e = true := by
        simp only [stB] at hb
        repeat' split at hb
        all_goals first
          | (simp only [Bool.and_eq_true] at hb; first | (refine .inr ?_; simp_all; done) | (refine .inl ?_; simp_all; done))
          | simp at hb
      rcases hz with hz | hz
      · exact ET.Ok.rd h.1 hr.1 hz
      · exact ET.Ok.rd0 h.1 hz
    exact ⟨he, h.2.1.rd, SM.Oks.rd h.2.2.1 hr.2.1 h1, h.2.2.2.1.rd, SM.Oks.rd h.2.2.2.2.1 hr.2.2 h2, by have := h.2.2.2.2.2.1; omega, by have := h.2.2.2.2.2.2; omega, by omega⟩
theorem SM.Oks.rd {w : World} : ∀ {l : List SM}, SM.Oks w l → rgSs (SM.es l) → stBs (SM.es l) = true → SM.Rds w l
  | [], _, _, _ => trivial
  | x :: r, h, hr, hb => by
    have hb : (stB x.e && stBs (SM.es r)) = true := hb
    simp only [Bool.and_eq_true] at hb
    exact ⟨SM.Ok.rd h.1 hr.1 hb.1, SM.Oks.rd h.2 hr.2 hb.2⟩
end
mutual
theorem SM.ht_le : ∀ s : SM, SM.ht s ≤ nS s.e
  | .mk kd nm e B cb b E ce f => by
    have h1 := SM.hts_le b
    have h2 := SM.hts_le f
    simp only [SM.ht, SM.e, nS]
    omega
theorem SM.hts_le : ∀ l : List SM, SM.hts l ≤ nSs (SM.es l)
  | [] => by simp [SM.hts, SM.es, nSs]
  | x :: r => by
    have h1 := SM.ht_le x
    have h2 := SM.hts_le r
    simp only [SM.hts, SM.es, nSs]
    omega
end
structure Rdy (w : World) (A : Option Addr) (m : List FM) : Prop where
  rd : RdS FM.enc 3 w A m
  all : ∀ f ∈ m, FM.Rd w f
  len : m.length ≤ 9000000
  fit : treeB (m.map FM.e) = true → (whole (m.map FM.e)).length ≤ 140737488355328 ∧ ∀ f ∈ m, FM.Fits f
theorem Rdy.ext {w w' : World} {A : Option Addr} {m : List FM} (h : Rdy w A m) (e : Ext w w') : Rdy w' A m := ⟨RdS.from e h.rd, fun f hf => (h.all f hf).ext e, h.len, h.fit⟩
theorem fit_of {m : List FM} (hN : nP (m.map FM.e) ≤ 2097152) (hr : ∀ f ∈ m, rgSs (SM.es f.body)) (hb : treeB (m.map FM.e) = true) : (whole (m.map FM.e)).length ≤ 140737488355328 ∧ ∀ f ∈ m, FM.Fits f := by
  refine ⟨whole_fit ?_ (fun g hg => ?_) hN, fun f hf => ?_⟩
  · unfold treeB at hb
    simp only [Bool.and_eq_true] at hb
    exact hb.2
  · obtain ⟨f, hf, rfl⟩ := List.mem_map.1 hg
    exact hr f hf
  · have h1 := nP_mem (List.mem_map_of_mem (f := FM.e) hf)
    have h1 : nSs (SM.es f.body) ≤ nP (m.map FM.e) := h1
    have h2 := SM.hts_le f.body
    exact ⟨by omega, by omega⟩
end Go.Proofs.YtfnjodpehomgfaaGreatDoor
namespace Go.Sh
section
variable {H : Type} {enc : TypeId × Value → H} {P : Program} {w : World} {sp : Nat → Bool} {held : Bool}
theorem read_sliceB {α : Type} {R : World → α → List Value → Prop} {Q : α → DataW H → Prop} {t e : TypeId} {sz : Nat} {fuel : Nat} {cs : List Value} {x : DataW H × List MemPlace} (ht : P.underlying t = some (.slice e)) (hsz : P.cellsOf e = sz) (hpos : 0 < sz)
    (he : ∀ n cs y, n < fuel → DataW.trod enc P w 0 sp held n e cs = some y → ∃ a, cs.length = sz ∧ R w a cs ∧ Q a y.1) (h : DataW.trod enc P w 0 sp held fuel t cs = some x) :
    ∃ (A : Option Addr) (l : List α) (c : Nat), cs = [.slice A l.length c] ∧ l.length ≤ c ∧ c ≤ maxLen ∧ (A = none → c = 0) ∧ Rd R sz w w.heap.size A l ∧
      ((l = [] ∧ x.1 = .nil) ∨ ∃ es rest, x.1 = .slice es rest ∧ es.length = l.length ∧ ∀ (i : Nat) (a : α) (d : DataW H), l[i]? = some a → es[i]? = some d → Q a d) := by
  rcases DataW.trod_slice ht h with ⟨rfl, rfl⟩ | ⟨a, len, cap, elems, rest, n, hfu, rfl, rfl, _, hl, hm, hlen, hel, _⟩
  · exact ⟨none, [], 0, rfl, by simp, by simp, fun _ => rfl, Rd.nil, .inl ⟨rfl, rfl⟩⟩
  · rw [hsz] at hel
    obtain ⟨l, h1, h2⟩ := exists_list (Q := fun i (b : α) => ∃ vs, vs.length = sz ∧ w.cells? 0 (a.add (i * sz)) sz = some vs ∧ R w b vs ∧ ∀ d, (elems.map (·.1))[i]? = some d → Q b d) len (fun i hi => by
      have hi' : i < elems.length := by omega
      have := hel i hi
      rw [List.getElem?_eq_getElem hi', Option.bind_eq_some_iff] at this
      obtain ⟨vs, hv, hy⟩ := this
      obtain ⟨b, hb1, hb2, hb3⟩ := he _ _ _ (by omega) hy
      refine ⟨b, vs, hb1, hv, hb2, fun d hd => ?_⟩
      rw [List.getElem?_map, List.getElem?_eq_getElem hi'] at hd
      simp at hd; subst hd; exact hb3)
    have hcell : ∀ i b, l[i]? = some b → ∃ vs, vs.length = sz ∧ R w b vs ∧ ∀ j v, vs[j]? = some v → w.cell? (a.add (i * sz + j)) = some v := by
      intro i b hb
      obtain ⟨vs, g1, g2, g3, _⟩ := h2 i b hb
      refine ⟨vs, g1, g3, fun j v hv => ?_⟩
      unfold World.cells? at g2
      rw [if_pos (Nat.zero_le _)] at g2
      have hj : j < sz := by have := (List.getElem?_eq_some_iff.1 hv).1; omega
      have := Lib.mapM_at g2 j j (by simp [hj])
      obtain ⟨u, hu1, hu2⟩ := this
      rw [hv] at hu1; simp at hu1; subst hu1
      rw [← add_add]; exact hu2
    refine ⟨some a, l, cap, by rw [h1], by omega, hm, fun h => by simp at h, ⟨fun hn => ⟨by simp, ?_⟩, fun i b hb => hcell i b hb⟩, .inr ⟨elems.map (·.1), rest.map (·.1), rfl, by rw [List.length_map, hlen, h1], fun i b d hb hd => ?_⟩⟩
    · obtain ⟨b, hb⟩ : ∃ b, l[0]? = some b := ⟨l[0]'(List.length_pos_iff.2 hn), List.getElem?_eq_getElem _⟩
      obtain ⟨vs, g1, _, g3⟩ := hcell 0 b hb
      have := g3 0 vs[0] (List.getElem?_eq_getElem (by omega))
      simp only [gA]
      rw [← block_add a (0 * sz + 0)]
      exact cell_lt this
    · obtain ⟨_, _, _, _, g⟩ := h2 i b hb
      exact g d hd
end
end Go.Sh
namespace Go.Proofs.YtfnjodpehomgfaaGreatDoor
open Go Go.Sh Go.Tx
attribute [local irreducible] Blk Ext RdS
theorem bulk1 {H : Type} (d : DataW H) : 1 ≤ Rows.uptoBulk d := by
  cases d with
  | lit l => cases l <;> simp [Rows.uptoBulk]
  | nil => simp [Rows.uptoBulk]
  | ptr d => simp [Rows.uptoBulk]
  | slice elems spare => simp [Rows.uptoBulk]
  | agg parts => simp [Rows.uptoBulk]
  | iface t d => simp [Rows.uptoBulk]
  | map entries => simp [Rows.uptoBulk]
  | held h => simp [Rows.uptoBulk]
theorem u_expr : Tryz.prog.underlying 74 = some T.t74.desc := (T.ok.1.get (t := 74) rfl).1
theorem u_exprs : Tryz.prog.underlying 72 = some (.slice 74) := (T.ok.1.get (t := 72) (i := T.t72) rfl).1
theorem n_expr : Tryz.prog.cellsOf 74 = 6 := by kernel_rfl
theorem n_exprs : Tryz.prog.cellsOf 72 = 1 := by kernel_rfl
theorem n_int1 : Tryz.prog.cellsOf 3 = 1 := by kernel_rfl
theorem n_int64 : Tryz.prog.cellsOf 2 = 1 := by kernel_rfl
theorem n_str1 : Tryz.prog.cellsOf 9 = 1 := by kernel_rfl
theorem len6 {l : List Value} (h : l.length = 6) : ∃ a b c d e f, l = [a, b, c, d, e, f] := by
  match l, h with
  | [a, b, c, d, e, f], _ => exact ⟨a, b, c, d, e, f, rfl⟩
theorem wfi64 {n : Int} (h : (Lit.int .i64 n).wf = true) : -9223372036854775808 ≤ n ∧ n ≤ 9223372036854775807 := by
  have h := (Lit.wf_int_iff _ _).1 h
  have e1 : IntKind.i64.min = -9223372036854775808 := by decide
  have e2 : IntKind.i64.max = 9223372036854775807 := by decide
  rw [e1, e2] at h
  exact h
section
variable {H : Type} {enc : TypeId × Value → H} {w : World} {sp : Nat → Bool} {held : Bool}
def QE (w : World) (t : ET) (d : DataW H) : Prop := Rows.uptoBulk d ≤ 9000000 → ET.Rd w t ∧ rgE t.e ∧ nE t.e ≤ Rows.uptoBulk d
theorem qe_list : ∀ (l : List ET) (es : List (DataW H)), es.length = l.length → (∀ (i : Nat) a d, l[i]? = some a → es[i]? = some d → QE w a d) → Rows.uptoBulkAll es ≤ 9000000 → ET.Rds w l ∧ rgEs (ET.es l) ∧ nEs (ET.es l) ≤ Rows.uptoBulkAll es ∧ l.length ≤ Rows.uptoBulkAll es
  | [], [], _, _, _ => ⟨trivial, trivial, Nat.zero_le _, Nat.zero_le _⟩
  | [], _ :: _, h, _, _ => by simp at h
  | _ :: _, [], h, _, _ => by simp at h
  | x :: r, d :: es, h, hq, hb => by
    simp only [Rows.uptoBulkAll] at hb ⊢
    have h1 := hq 0 x d rfl rfl (by omega)
    have h2 := qe_list r es (by simpa using h) (fun i a d ha hd => hq (i + 1) a d (by simpa using ha) (by simpa using hd)) (by omega)
    have := bulk1 d
    refine ⟨⟨h1.1, h2.1⟩, ⟨h1.2.1, h2.2.1⟩, ?_, ?_⟩
    · simp only [ET.es, nEs]; omega
    · simp only [List.length_cons]; omega
set_option maxRecDepth 100000 in
theorem read_expr : ∀ (fuel : Nat) (cs : List Value) (x : DataW H × List MemPlace), DataW.trod enc Tryz.prog w 0 sp held fuel 74 cs = some x → ∃ t : ET, cs.length = 6 ∧ cs = ET.enc t ∧ QE w t x.1 := by
  intro fuel
  induction fuel using Nat.strongRecOn with
  | ind fuel ih =>
  intro cs x h
  obtain ⟨xs, n, hfu, hx, hl, hxs, hf⟩ := DataW.trod_struct u_expr h
  rw [n_expr] at hl
  obtain ⟨c0, c1, c2, c3, c4, c5, rfl⟩ := len6 hl
  have hx6 : xs.length = 6 := hxs
  obtain ⟨y0, y1, y2, y3, y4, y5, rfl⟩ : ∃ y0 y1 y2 y3 y4 y5, xs = [y0, y1, y2, y3, y4, y5] := by
    match xs, hx6 with
    | [a, b, c, d, e, f], _ => exact ⟨a, b, c, d, e, f, rfl⟩
  have f0 : DataW.trod enc Tryz.prog w 0 sp held n 3 ((List.drop 0 [c0, c1, c2, c3, c4, c5]).take (Tryz.prog.cellsOf 3)) = some y0 := hf 0 _ rfl
  have f1 : DataW.trod enc Tryz.prog w 0 sp held n 3 ((List.drop 1 [c0, c1, c2, c3, c4, c5]).take (Tryz.prog.cellsOf 3)) = some y1 := hf 1 _ rfl
  have f2 : DataW.trod enc Tryz.prog w 0 sp held n 2 ((List.drop 2 [c0, c1, c2, c3, c4, c5]).take (Tryz.prog.cellsOf 2)) = some y2 := hf 2 _ rfl
  have f3 : DataW.trod enc Tryz.prog w 0 sp held n 9 ((List.drop 3 [c0, c1, c2, c3, c4, c5]).take (Tryz.prog.cellsOf 9)) = some y3 := hf 3 _ rfl
  have f4 : DataW.trod enc Tryz.prog w 0 sp held n 9 ((List.drop 4 [c0, c1, c2, c3, c4, c5]).take (Tryz.prog.cellsOf 9)) = some y4 := hf 4 _ rfl
  have f5 : DataW.trod enc Tryz.prog w 0 sp held n 72 ((List.drop 5 [c0, c1, c2, c3, c4, c5]).take (Tryz.prog.cellsOf 72)) = some y5 := hf 5 _ rfl
  rw [n_int1] at f0 f1
  rw [n_int64] at f2
  rw [n_str1] at f3 f4
  rw [n_exprs] at f5
  obtain ⟨n0, q0, _, z0⟩ := read_int u_int f0
  obtain ⟨n1, q1, _, z1⟩ := read_int u_int f1
  obtain ⟨n2, q2, k2, z2⟩ := read_int u_int64 f2
  obtain ⟨s3, q3, z3, _⟩ := DataW.trod_string u_string f3
  obtain ⟨s4, q4, z4, _⟩ := DataW.trod_string u_string f4
  obtain ⟨A, l, c, q5, h1, h2, h3, h4, h5⟩ := read_sliceB (R := fun _ a cs => cs = ET.enc a) (Q := fun a d => QE w a d) (sz := 6) u_exprs n_expr (by decide) (fun m cs y hm hy => ih m (by omega) cs y hy) f5
  simp at q0 q1 q2 q3 q4 q5
  subst q0 q1 q2 q3 q4 q5
  refine ⟨.mk n0 n1 n2 s3.data.toList s4.data.toList A c l, rfl, ?_, fun hb => ?_⟩
  · simp only [ET.enc]; rw [← bs_of, ← bs_of]
  · have hxb : x.1 = .agg [y0.1, y1.1, y2.1, y3.1, y4.1, y5.1] := by rw [hx]; rfl
    rw [hxb] at hb ⊢
    have e3 : y3.1 = .lit (.string s3.data.toList) := by rw [z3]
    have e4 : y4.1 = .lit (.string s4.data.toList) := by rw [z4]
    simp only [Rows.uptoBulk, Rows.uptoBulkAll, e3, e4] at hb ⊢
    have hrd : RdS ET.enc 6 w A l := by
      unfold RdS
      exact h4
    rcases h5 with ⟨rfl, h5⟩ | ⟨es, rest, g1, g2, g3⟩
    · exact ⟨⟨hrd, trivial, by simp, by omega, by omega, wfi64 k2⟩, ⟨wfi64 k2, trivial⟩, by simp only [ET.e, ET.es, nE, nEs]; omega⟩
    · rw [g1] at hb ⊢
      simp only [Rows.uptoBulk] at hb ⊢
      obtain ⟨r1, r2, r3, r4⟩ := qe_list l es g2 g3 (by omega)
      exact ⟨⟨hrd, r1, by omega, by omega, by omega, wfi64 k2⟩, ⟨wfi64 k2, r2⟩, by simp only [ET.e, nE]; omega⟩
end
end Go.Proofs.YtfnjodpehomgfaaGreatDoor
namespace Go.Proofs.YtfnjodpehomgfaaGreatDoor
open Go Go.Sh Go.Tx
attribute [local irreducible] Blk Ext RdS
theorem u_stmt : Tryz.prog.underlying 76 = some T.t76.desc := (T.ok.1.get (t := 76) rfl).1
theorem u_stmts : Tryz.prog.underlying 32 = some (.slice 76) := (T.ok.1.get (t := 32) (i := T.t32) rfl).1
theorem n_stmt : Tryz.prog.cellsOf 76 = 10 := by kernel_rfl
theorem n_stmts : Tryz.prog.cellsOf 32 = 1 := by kernel_rfl
theorem u_fn : Tryz.prog.underlying 34 = some T.t34.desc := (T.ok.1.get (t := 34) rfl).1
theorem u_fns : Tryz.prog.underlying 22 = some (.slice 34) := (T.ok.1.get (t := 22) (i := T.t22) rfl).1
theorem n_fn : Tryz.prog.cellsOf 34 = 3 := by kernel_rfl
theorem n_fns : Tryz.prog.cellsOf 22 = 1 := by kernel_rfl
theorem n_strs : Tryz.prog.cellsOf 31 = 1 := by kernel_rfl
theorem u_src : Tryz.prog.underlying 24 = some T.t24.desc := (T.ok.1.get (t := 24) rfl).1
theorem n_src : Tryz.prog.cellsOf 24 = 1 := by kernel_rfl
theorem len10 {α : Type} {l : List α} (h : l.length = 10) : ∃ a b c d e f g i j k, l = [a, b, c, d, e, f, g, i, j, k] := by
  match l, h with
  | [a, b, c, d, e, f, g, i, j, k], _ => exact ⟨a, b, c, d, e, f, g, i, j, k, rfl⟩
section
variable {H : Type} {enc : TypeId × Value → H} {w : World} {sp : Nat → Bool} {held : Bool}
def QS (w : World) (t : SM) (d : DataW H) : Prop := Rows.uptoBulk d ≤ 9000000 → SM.Rd w t ∧ rgS t.e ∧ nS t.e ≤ Rows.uptoBulk d
theorem qs_list : ∀ (l : List SM) (es : List (DataW H)), es.length = l.length → (∀ (i : Nat) a d, l[i]? = some a → es[i]? = some d → QS w a d) → Rows.uptoBulkAll es ≤ 9000000 → SM.Rds w l ∧ rgSs (SM.es l) ∧ nSs (SM.es l) ≤ Rows.uptoBulkAll es ∧ l.length ≤ Rows.uptoBulkAll es
  | [], [], _, _, _ => ⟨trivial, trivial, Nat.zero_le _, Nat.zero_le _⟩
  | [], _ :: _, h, _, _ => by simp at h
  | _ :: _, [], h, _, _ => by simp at h
  | x :: r, d :: es, h, hq, hb => by
    simp only [Rows.uptoBulkAll] at hb ⊢
    have h1 := hq 0 x d rfl rfl (by omega)
    have h2 := qs_list r es (by simpa using h) (fun i a d ha hd => hq (i + 1) a d (by simpa using ha) (by simpa using hd)) (by omega)
    have := bulk1 d
    refine ⟨⟨h1.1, h2.1⟩, ⟨h1.2.1, h2.2.1⟩, ?_, ?_⟩
    · simp only [SM.es, nSs]; omega
    · simp only [List.length_cons]; omega
theorem qs_slice {l : List SM} {d : DataW H} (h5 : (l = [] ∧ d = .nil) ∨ ∃ es rest, d = .slice es rest ∧ es.length = l.length ∧ ∀ (i : Nat) (a : SM) (d : DataW H), l[i]? = some a → es[i]? = some d → QS w a d) (hb : Rows.uptoBulk d ≤ 9000000) : SM.Rds w l ∧ rgSs (SM.es l) ∧ nSs (SM.es l) + 1 ≤ Rows.uptoBulk d ∧ l.length ≤ Rows.uptoBulk d := by
  rcases h5 with ⟨rfl, rfl⟩ | ⟨es, rest, rfl, g2, g3⟩
  · exact ⟨trivial, trivial, by simp [SM.es, nSs, Rows.uptoBulk], by simp⟩
  · simp only [Rows.uptoBulk] at hb ⊢
    obtain ⟨r1, r2, r3, r4⟩ := qs_list l es g2 g3 (by omega)
    exact ⟨r1, r2, by omega, by omega⟩
set_option maxRecDepth 100000 in
theorem read_stmt : ∀ (fuel : Nat) (cs : List Value) (x : DataW H × List MemPlace), DataW.trod enc Tryz.prog w 0 sp held fuel 76 cs = some x → ∃ t : SM, cs.length = 10 ∧ cs = SM.enc t ∧ QS w t x.1 := by
  intro fuel
  induction fuel using Nat.strongRecOn with
  | ind fuel ih =>
  intro cs x h
  obtain ⟨xs, n, hfu, hx, hl, hxs, hf⟩ := DataW.trod_struct u_stmt h
  rw [n_stmt] at hl
  obtain ⟨c0, c1, c2, c3, c4, c5, c6, c7, c8, c9, rfl⟩ := len10 hl
  have hx5 : xs.length = 5 := hxs
  obtain ⟨y0, y1, y2, y3, y4, rfl⟩ : ∃ y0 y1 y2 y3 y4, xs = [y0, y1, y2, y3, y4] := by
    match xs, hx5 with
    | [a, b, c, d, e], _ => exact ⟨a, b, c, d, e, rfl⟩
  have f0 : DataW.trod enc Tryz.prog w 0 sp held n 3 ((List.drop 0 [c0, c1, c2, c3, c4, c5, c6, c7, c8, c9]).take (Tryz.prog.cellsOf 3)) = some y0 := hf 0 _ rfl
  have f1 : DataW.trod enc Tryz.prog w 0 sp held n 9 ((List.drop 1 [c0, c1, c2, c3, c4, c5, c6, c7, c8, c9]).take (Tryz.prog.cellsOf 9)) = some y1 := hf 1 _ rfl
  have f2 : DataW.trod enc Tryz.prog w 0 sp held n 74 ((List.drop 2 [c0, c1, c2, c3, c4, c5, c6, c7, c8, c9]).take (Tryz.prog.cellsOf 74)) = some y2 := hf 2 _ rfl
  have f3 : DataW.trod enc Tryz.prog w 0 sp held n 32 ((List.drop 8 [c0, c1, c2, c3, c4, c5, c6, c7, c8, c9]).take (Tryz.prog.cellsOf 32)) = some y3 := hf 3 _ rfl
  have f4 : DataW.trod enc Tryz.prog w 0 sp held n 32 ((List.drop 9 [c0, c1, c2, c3, c4, c5, c6, c7, c8, c9]).take (Tryz.prog.cellsOf 32)) = some y4 := hf 4 _ rfl
  rw [n_int1] at f0
  rw [n_str1] at f1
  rw [n_expr] at f2
  rw [n_stmts] at f3 f4
  obtain ⟨n0, q0, _, z0⟩ := read_int u_int f0
  obtain ⟨s1, q1, z1, _⟩ := DataW.trod_string u_string f1
  obtain ⟨t2, _, q2, z2⟩ := read_expr _ _ _ f2
  obtain ⟨B, b, cb, q3, _, _, _, b4, b5⟩ := read_sliceB (R := fun _ a cs => cs = SM.enc a) (Q := fun a d => QS w a d) (sz := 10) u_stmts n_stmt (by decide) (fun m cs y hm hy => ih m (by omega) cs y hy) f3
  obtain ⟨E, e, ce, q4, _, _, _, e4, e5⟩ := read_sliceB (R := fun _ a cs => cs = SM.enc a) (Q := fun a d => QS w a d) (sz := 10) u_stmts n_stmt (by decide) (fun m cs y hm hy => ih m (by omega) cs y hy) f4
  have k0 : [c0] = [Value.int .i64 n0] := q0
  have k1 : [c1] = [Value.string s1] := q1
  have k2 : [c2, c3, c4, c5, c6, c7] = ET.enc t2 := q2
  have k3 : [c8] = [Value.slice B b.length cb] := q3
  have k4 : [c9] = [Value.slice E e.length ce] := q4
  clear q0 q1 q2 q3 q4
  simp only [List.cons.injEq, and_true] at k0 k1 k3 k4
  subst k0 k1 k3 k4
  refine ⟨.mk n0 s1.data.toList t2 B cb b E ce e, rfl, ?_, fun hb => ?_⟩
  · simp only [SM.enc]; rw [← bs_of, ← k2]; rfl
  · have hxb : x.1 = .agg [y0.1, y1.1, y2.1, y3.1, y4.1] := by rw [hx]; rfl
    rw [hxb] at hb ⊢
    have e1 : y1.1 = .lit (.string s1.data.toList) := by rw [z1]
    simp only [Rows.uptoBulk, Rows.uptoBulkAll, e1] at hb ⊢
    have hrb : RdS SM.enc 10 w B b := by unfold RdS; exact b4
    have hre : RdS SM.enc 10 w E e := by unfold RdS; exact e4
    obtain ⟨r1, r2, r3⟩ := z2 (by omega)
    obtain ⟨p1, p2, p3, p4⟩ := qs_slice b5 (by omega)
    obtain ⟨o1, o2, o3, o4⟩ := qs_slice e5 (by omega)
    exact ⟨⟨r1, hrb, p1, hre, o1, by omega, by omega, by omega⟩, ⟨r2, p2, o2⟩, by simp only [SM.e, nS]; omega⟩
end
end Go.Proofs.YtfnjodpehomgfaaGreatDoor
namespace Go.Proofs.YtfnjodpehomgfaaGreatDoor
open Go Go.Sh Go.Tx
attribute [local irreducible] Blk Ext RdS
theorem u_strsT : Tryz.prog.underlying 31 = some (.slice 9) := (T.ok.1.get (t := 31) (i := T.t31) rfl).1
section
variable {H : Type} {enc : TypeId × Value → H} {w : World} {sp : Nat → Bool} {held : Bool}
def QB (a : Bs) (d : DataW H) : Prop := a.length + 1 ≤ Rows.uptoBulk d
theorem qb_list : ∀ (l : List Bs) (es : List (DataW H)), es.length = l.length → (∀ (i : Nat) a d, l[i]? = some a → es[i]? = some d → QB a d) → l.length ≤ Rows.uptoBulkAll es ∧ ∀ s ∈ l, s.length ≤ Rows.uptoBulkAll es
  | [], [], _, _ => ⟨Nat.zero_le _, fun s h => by cases h⟩
  | [], _ :: _, h, _ => by simp at h
  | _ :: _, [], h, _ => by simp at h
  | x :: r, d :: es, h, hq => by
    simp only [Rows.uptoBulkAll]
    have h1 : x.length + 1 ≤ Rows.uptoBulk d := hq 0 x d rfl rfl
    have h2 := qb_list r es (by simpa using h) (fun i a d ha hd => hq (i + 1) a d (by simpa using ha) (by simpa using hd))
    refine ⟨by simp only [List.length_cons]; omega, fun s hs => ?_⟩
    rcases List.mem_cons.1 hs with rfl | hs
    · omega
    · have := h2.2 s hs; omega
def nF (f : Fnc) : Nat := f.params.length + nSs f.body + 1
def QF (w : World) (f : FM) (d : DataW H) : Prop := Rows.uptoBulk d ≤ 9000000 → FM.Rd w f ∧ (rgSs (SM.es f.body) ∧ f.name.length ≤ 8999999) ∧ nF f.e ≤ Rows.uptoBulk d
theorem qf_list : ∀ (l : List FM) (es : List (DataW H)), es.length = l.length → (∀ (i : Nat) a d, l[i]? = some a → es[i]? = some d → QF w a d) → Rows.uptoBulkAll es ≤ 9000000 → (∀ f ∈ l, FM.Rd w f ∧ (rgSs (SM.es f.body) ∧ f.name.length ≤ 8999999)) ∧ nP (l.map FM.e) ≤ Rows.uptoBulkAll es ∧ l.length ≤ Rows.uptoBulkAll es
  | [], [], _, _, _ => ⟨fun f h => (by cases h), Nat.zero_le _, Nat.zero_le _⟩
  | [], _ :: _, h, _, _ => by simp at h
  | _ :: _, [], h, _, _ => by simp at h
  | x :: r, d :: es, h, hq, hb => by
    simp only [Rows.uptoBulkAll] at hb ⊢
    have h1 := hq 0 x d rfl rfl (by omega)
    have h2 := qf_list r es (by simpa using h) (fun i a d ha hd => hq (i + 1) a d (by simpa using ha) (by simpa using hd)) (by omega)
    have := bulk1 d
    refine ⟨fun f hf => ?_, ?_, ?_⟩
    · rcases List.mem_cons.1 hf with rfl | hf
      · exact ⟨h1.1, h1.2.1⟩
      · exact h2.1 f hf
    · have h3 := h1.2.2
      unfold nF at h3
      simp only [List.map_cons, nP]; omega
    · simp only [List.length_cons]; omega
set_option maxRecDepth 100000 in
theorem read_fn (fuel : Nat) (cs : List Value) (x : DataW H × List MemPlace) (h : DataW.trod enc Tryz.prog w 0 sp held fuel 34 cs = some x) : ∃ f : FM, cs.length = 3 ∧ cs = FM.enc f ∧ QF w f x.1 := by
  obtain ⟨xs, n, hfu, hx, hl, hxs, hf⟩ := DataW.trod_struct u_fn h
  rw [n_fn] at hl
  obtain ⟨c0, c1, c2, rfl⟩ : ∃ a b c, cs = [a, b, c] := by
    match cs, hl with
    | [a, b, c], _ => exact ⟨a, b, c, rfl⟩
  obtain ⟨y0, y1, y2, rfl⟩ : ∃ y0 y1 y2, xs = [y0, y1, y2] := by
    match xs, (show xs.length = 3 from hxs) with
    | [a, b, c], _ => exact ⟨a, b, c, rfl⟩
  have f0 : DataW.trod enc Tryz.prog w 0 sp held n 9 ((List.drop 0 [c0, c1, c2]).take (Tryz.prog.cellsOf 9)) = some y0 := hf 0 _ rfl
  have f1 : DataW.trod enc Tryz.prog w 0 sp held n 31 ((List.drop 1 [c0, c1, c2]).take (Tryz.prog.cellsOf 31)) = some y1 := hf 1 _ rfl
  have f2 : DataW.trod enc Tryz.prog w 0 sp held n 32 ((List.drop 2 [c0, c1, c2]).take (Tryz.prog.cellsOf 32)) = some y2 := hf 2 _ rfl
  rw [n_str1] at f0
  rw [n_strs] at f1
  rw [n_stmts] at f2
  obtain ⟨s0, q0, z0, _⟩ := DataW.trod_string u_string f0
  obtain ⟨P, p, cp, q1, pc, _, _, p4, p5⟩ := read_sliceB (R := fun _ a cs => cs = strE a) (Q := fun a d => QB a d) (sz := 1) u_strsT n_str1 (by decide) (fun m cs y hm hy => by
    obtain ⟨s, g1, g2, _⟩ := DataW.trod_string u_string hy
    refine ⟨s.data.toList, by rw [g1]; rfl, by rw [g1]; unfold strE; rw [← bs_of], ?_⟩
    show _ + 1 ≤ _
    rw [g2]; simp [Rows.uptoBulk]) f1
  obtain ⟨B, b, cb, q2, _, _, _, b4, b5⟩ := read_sliceB (R := fun _ a cs => cs = SM.enc a) (Q := fun a d => QS w a d) (sz := 10) u_stmts n_stmt (by decide) (fun m cs y hm hy => read_stmt m cs y hy) f2
  have k0 : [c0] = [Value.string s0] := q0
  have k1 : [c1] = [Value.slice P p.length cp] := q1
  have k2 : [c2] = [Value.slice B b.length cb] := q2
  clear q0 q1 q2
  simp only [List.cons.injEq, and_true] at k0 k1 k2
  subst k0 k1 k2
  refine ⟨⟨s0.data.toList, P, cp, p, B, cb, b⟩, rfl, ?_, fun hb => ?_⟩
  · simp only [FM.enc]; rw [← bs_of]
  · have hxb : x.1 = .agg [y0.1, y1.1, y2.1] := by rw [hx]; rfl
    rw [hxb] at hb ⊢
    have e0 : y0.1 = .lit (.string s0.data.toList) := by rw [z0]
    simp only [Rows.uptoBulk, Rows.uptoBulkAll, e0] at hb ⊢
    have hrp : RdS strE 1 w P p := by unfold RdS; exact p4
    have hrb : RdS SM.enc 10 w B b := by unfold RdS; exact b4
    obtain ⟨o1, o2, o3, o4⟩ := qs_slice b5 (by omega)
    have hp : p.length ≤ Rows.uptoBulk y1.1 ∧ ∀ s ∈ p, s.length ≤ Rows.uptoBulk y1.1 := by
      rcases p5 with ⟨rfl, _⟩ | ⟨es, rest, g1, g2, g3⟩
      · exact ⟨Nat.zero_le _, fun s h => by cases h⟩
      · rw [g1]
        simp only [Rows.uptoBulk]
        obtain ⟨r1, r2⟩ := qb_list p es g2 g3
        exact ⟨by omega, fun s hs => by have := r2 s hs; omega⟩
    have hp1 := hp.1
    refine ⟨⟨hrp, hrb, o1, by show p.length ≤ 9000000; omega, pc, by show b.length ≤ 9000000; omega, by show s0.data.toList.length ≤ 9000000; omega, fun s hs => ?_⟩, ⟨o2, by show s0.data.toList.length ≤ 8999999; omega⟩, ?_⟩
    · have := hp.2 s hs; omega
    · show p.length + nSs (SM.es b) + 1 ≤ _
      have := hp.1
      omega
set_option maxRecDepth 100000 in
theorem arg_source {v : Value} {d : DataW H} {p : List MemPlace} {r : Go.Reach} {b0 : Nat} (hv : Value.okWide Tryz.prog w r b0 24 v) (h : DataW.Trod enc Tryz.prog w 0 sp held 24 v d p) (hb : Rows.uptoBulk d ≤ 1048576) :
    ∃ (m : List FM) (A : Option Addr) (c : Nat), v = .agg #[.slice A m.length c] ∧ Rdy w A m ∧ nP (m.map FM.e) ≤ 1048576 ∧ (∀ f ∈ m, rgSs (SM.es f.body)) ∧ (∀ f ∈ m, f.name.length ≤ 8999999) := by
  obtain ⟨n0, hn⟩ := h
  unfold Value.okWide at hv
  rw [u_src] at hv
  obtain ⟨cs, rfl, _, _⟩ := hv
  obtain ⟨xs, n, hfu, hx, hl, hxs, hf⟩ := DataW.trod_struct u_src hn
  rw [n_src] at hl
  obtain ⟨c0, hc0⟩ : ∃ c0, (Value.agg cs).cells.toList = [c0] := by
    match hcs : (Value.agg cs).cells.toList, hl with
    | [a], _ => exact ⟨a, rfl⟩
  obtain ⟨y0, rfl⟩ : ∃ y0, xs = [y0] := by
    match xs, (show xs.length = 1 from hxs) with
    | [a], _ => exact ⟨a, rfl⟩
  rw [hc0] at hf
  have f0 : DataW.trod enc Tryz.prog w 0 sp held n 22 ((List.drop 0 [c0]).take (Tryz.prog.cellsOf 22)) = some y0 := hf 0 _ rfl
  rw [n_fns] at f0
  obtain ⟨A, m, c, q0, _, _, _, b4, b5⟩ := read_sliceB (R := fun _ a cs => cs = FM.enc a) (Q := fun a d => QF w a d) (sz := 3) u_fns n_fn (by decide) (fun m cs y hm hy => read_fn m cs y hy) f0
  have k0 : [c0] = [Value.slice A m.length c] := q0
  simp only [List.cons.injEq, and_true] at k0
  subst k0
  have hxb : d = .agg [y0.1] := by
    have := congrArg Prod.fst hx
    exact this
  have hrd : RdS FM.enc 3 w A m := by unfold RdS; exact b4
  have hv : Value.agg cs = .agg #[.slice A m.length c] := by
    have : cs.toList = [.slice A m.length c] := hc0
    congr 1
    exact Array.ext' this
  rw [hxb] at hb
  simp only [Rows.uptoBulk, Rows.uptoBulkAll] at hb
  have key : (∀ f ∈ m, FM.Rd w f ∧ (rgSs (SM.es f.body) ∧ f.name.length ≤ 8999999)) ∧ nP (m.map FM.e) ≤ 1048576 ∧ m.length ≤ 1048576 := by
    rcases b5 with ⟨rfl, _⟩ | ⟨es, rest, g1, g2, g3⟩
    · exact ⟨fun f h => (by cases h), Nat.zero_le _, Nat.zero_le _⟩
    · rw [g1] at hb
      simp only [Rows.uptoBulk] at hb
      obtain ⟨r1, r2, r3⟩ := qf_list m es g2 g3 (by omega)
      exact ⟨r1, by omega, by omega⟩
  exact ⟨m, A, c, hv, ⟨hrd, fun f hf => (key.1 f hf).1, by omega, fit_of (by omega) fun f hf => (key.1 f hf).2.1⟩, key.2.1, fun f hf => (key.1 f hf).2.1, fun f hf => (key.1 f hf).2.2⟩
end
end Go.Proofs.YtfnjodpehomgfaaGreatDoor
namespace Go.Tx
def k_bad : Bs := [98, 97, 100]
def k_least : Bs := [108, 101, 97, 115, 116]
def rKind (t : Tk) : Bs := if t.err ≠ 0 then k_bad else if t.kind = k_number ∧ t.n = -9223372036854775808 then k_least else t.kind
def rText (src : Bs) (t : Tk) : Bs := if t.err = 140 then (src.drop t.at_).take 1 else t.text
def chk (ts : List Tk) : Res Unit := match ts with
  | t :: r => if t.err ≠ 0 then .err t.err t.at_ else if t.kind = k_number ∧ t.n = -9223372036854775808 then .err 143 t.at_ else .ok () (t :: r)
  | [] => .out
structure RS where
  ts : List Tk
  sp : Option (Int × Nat)
def Doom (e : Int) (p : Nat) (s : RS) : Prop := s.sp = some (e, p) ∨ (s.sp = none ∧ chk s.ts = .err e p)
def AtC {α : Type} (R : Res α) (s : RS) : Prop := match R with
  | .ok _ ts => s.sp = none ∧ s.ts = ts ∧ chk ts = .ok () ts
  | .err e p => Doom e p s
  | .out => True
structure AtR {α : Type} (R : Res α) (s : RS) : Prop where
  ends : Ends s.ts
  at_ : AtC R s
theorem chk_ok {ts : List Tk} (h : chk ts = .ok () ts) : rKind (curT ts) = curK ts ∧ (curT ts).err = 0 ∧ ¬ ((curT ts).kind = k_number ∧ (curT ts).n = -9223372036854775808) := by
  cases ts with
  | nil => simp [chk] at h
  | cons t r =>
    simp only [chk] at h
    split at h
    · simp at h
    · rename_i h1
      split at h
      · simp at h
      · rename_i h2
        refine ⟨?_, Classical.not_not.1 h1, h2⟩
        show rKind t = t.kind
        unfold rKind
        rw [if_neg h1, if_neg h2]
theorem chk_err {ts : List Tk} {e : Int} {p : Nat} (h : chk ts = .err e p) : (rKind (curT ts) = k_bad ∨ rKind (curT ts) = k_least) ∧ p = (curT ts).at_ ∧ e = (if (curT ts).err ≠ 0 then (curT ts).err else 143) ∧ ((curT ts).err = 0 → rKind (curT ts) = k_least) := by
  cases ts with
  | nil => simp [chk] at h
  | cons t r =>
    simp only [chk] at h
    show (rKind t = k_bad ∨ rKind t = k_least) ∧ p = t.at_ ∧ e = (if t.err ≠ 0 then t.err else 143) ∧ (t.err = 0 → rKind t = k_least)
    split at h
    · rename_i h1
      simp only [Res.err.injEq] at h
      refine ⟨.inl (by unfold rKind; rw [if_pos h1]), h.2.symm, by rw [if_pos h1]; exact h.1.symm, fun h2 => absurd h2 h1⟩
    · rename_i h1
      split at h
      · rename_i h2
        simp only [Res.err.injEq] at h
        have hk : rKind t = k_least := by unfold rKind; rw [if_neg h1, if_pos h2]
        exact ⟨.inr hk, h.2.symm, by rw [if_neg h1]; exact h.1.symm, fun _ => hk⟩
      · simp at h
theorem chk_cases {ts : List Tk} (h : Ends ts) : chk ts = .ok () ts ∨ ∃ e p, chk ts = .err e p := by
  cases ts with
  | nil => exact h.elim
  | cons t r =>
    simp only [chk]
    split
    · exact .inr ⟨_, _, rfl⟩
    · split
      · exact .inr ⟨_, _, rfl⟩
      · exact .inl rfl
theorem step_chk {t : Tk} {r : List Tk} : stepP false (t :: r) = chk r := by
  cases r with
  | nil => rfl
  | cons u r => simp [stepP, chk]
theorem step_at {ts : List Tk} (h : Ends ts) (hg : chk ts = .ok () ts) (hk : curK ts ≠ k_end) : AtR (stepP false ts) ⟨ts.tail, none⟩ := by
  obtain ⟨h1, h2, h3⟩ := chk_ok hg
  obtain ⟨t, u, r, rfl⟩ := Way.ne ⟨h, h2⟩ hk
  have he : Ends (u :: r) := h
  rw [step_chk]
  refine ⟨he, ?_⟩
  rcases chk_cases he with hc | ⟨e, p, hc⟩
  · rw [hc]; exact ⟨rfl, rfl, hc⟩
  · rw [hc]; exact .inr ⟨rfl, hc⟩
def wrongE (e : Int) (t : Tk) : Int × Nat := (if t.err ≠ 0 then t.err else if rKind t = k_least then 143 else e, t.at_)
def wrongR (e : Int) (s : RS) : RS := match s.sp with
  | some _ => s
  | none => ⟨s.ts, some (wrongE e (curT s.ts))⟩
def takeR (k : Bs) (s : RS) : RS := match s.sp with
  | some _ => s
  | none => if rKind (curT s.ts) = k then ⟨s.ts.tail, none⟩ else wrongR 141 s
def isR (k : Bs) (s : RS) : Bool := match s.sp with
  | some _ => false
  | none => rKind (curT s.ts) == k
theorem wrong_doom {s : RS} {e0 e : Int} {p : Nat} (h : Doom e p s) : wrongR e0 s = ⟨s.ts, some (e, p)⟩ := by
  obtain ⟨ts, sp⟩ := s
  rcases h with h | ⟨h1, h2⟩
  · simp only at h; subst h; rfl
  · simp only at h1 h2; subst h1
    obtain ⟨g1, g2, g3, g4⟩ := chk_err h2
    simp only [wrongR, wrongE, g2, g3]
    split
    · rfl
    · rename_i h0
      rw [if_pos (g4 (Classical.not_not.1 h0))]
theorem wrong_good {s : RS} {e0 : Int} (h1 : s.sp = none) (h2 : chk s.ts = .ok () s.ts) (hl : curK s.ts ≠ k_least) : wrongR e0 s = ⟨s.ts, some (e0, (curT s.ts).at_)⟩ := by
  obtain ⟨ts, sp⟩ := s
  simp only at h1 h2 hl ⊢
  subst h1
  obtain ⟨g1, g2, g3⟩ := chk_ok h2
  simp only [wrongR, wrongE]
  rw [if_neg (fun e => e g2), if_neg (by rw [g1]; exact hl)]
theorem wrong_ts (e : Int) (s : RS) : (wrongR e s).ts = s.ts := by
  unfold wrongR
  split <;> rfl
def Plain (ts : List Tk) : Prop := curK ts ≠ k_least ∧ curK ts ≠ k_bad
def Pls (ts : List Tk) : Prop := ∀ t ∈ ts, t.kind ≠ k_least ∧ t.kind ≠ k_bad
theorem Pls.cur {ts : List Tk} (h : Pls ts) : Plain ts := by
  cases ts with
  | nil => exact ⟨by decide, by decide⟩
  | cons t r => exact h t (by simp)
theorem take_at {k : Bs} {α : Type} {R : Res α} {s : RS} (h : AtR R s) (hp : Pls s.ts) (hk : k ≠ k_end) (h1 : k ≠ k_bad) (h2 : k ≠ k_least) : AtR (R.bind fun _ ts => takeP k ts) (takeR k s) := by
  obtain ⟨he, ha⟩ := h
  cases R with
  | out =>
    refine ⟨?_, trivial⟩
    unfold takeR
    split
    · exact he
    · split
      · rename_i hs hr
        have hf : (curT s.ts).err = 0 := by
          apply Classical.byContradiction
          intro e
          unfold rKind at hr
          rw [if_pos e] at hr
          exact h1 hr.symm
        have hkk : curK s.ts ≠ k_end := fun e => by
          have : rKind (curT s.ts) = (curT s.ts).kind ∨ rKind (curT s.ts) = k_least := by
            unfold rKind
            rw [if_neg (fun h => h hf)]
            split
            · exact .inr rfl
            · exact .inl rfl
          rcases this with h | h
          · rw [hr] at h
            cases hts : s.ts with
            | nil => rw [hts] at he; exact he
            | cons t r => rw [hts] at h e; exact hk (h.trans e)
          · exact h2 (hr.symm.trans h)
        obtain ⟨t, u, r, hts⟩ := Way.ne ⟨he, hf⟩ hkk
        rw [hts] at he ⊢
        exact he
      · rw [wrong_ts]; exact he
  | err e p =>
    have ha : Doom e p s := ha
    have : takeR k s = ⟨s.ts, some (e, p)⟩ := by
      unfold takeR
      split
      · rename_i x hx
        rcases ha with h | ⟨h, _⟩
        · obtain ⟨ts, sp⟩ := s; simp only at h; subst h; rfl
        · rw [hx] at h; cases h
      · rename_i hx
        rw [if_neg, wrong_doom ha]
        intro hr
        rcases ha with h | ⟨_, h⟩
        · rw [hx] at h; cases h
        · rcases (chk_err h).1 with g | g
          · exact h1 (hr.symm.trans g)
          · exact h2 (hr.symm.trans g)
    rw [this]
    exact ⟨he, .inl rfl⟩
  | ok a ts =>
    obtain ⟨h3, h4, h5⟩ := ha
    obtain ⟨ts', sp⟩ := s
    simp only at h3 h4 he hp
    subst h3 h4
    obtain ⟨g1, g2, g3⟩ := chk_ok h5
    show AtR (takeP k ts') _
    unfold takeP takeR
    simp only
    by_cases hc : curK ts' = k
    · rw [if_neg (fun e => e hc), if_pos (g1.trans hc)]
      have := step_at he h5 (by rw [hc]; exact hk)
      obtain ⟨q1, q2⟩ := this
      refine ⟨q1, ?_⟩
      revert q2
      cases stepP false ts' <;> exact id
    · rw [if_pos hc, if_neg (by rw [g1]; exact hc)]
      rw [wrong_good rfl h5 hp.cur.1]
      exact ⟨he, .inl rfl⟩
theorem take_val {k : Bs} {α : Type} {R : Res α} {s : RS} {t : Tk} {ts' : List Tk} (h : AtR R s) (hR : (R.bind fun _ ts => takeP k ts) = .ok t ts') : t = curT s.ts ∧ s.sp = none ∧ rKind (curT s.ts) = k ∧ (curT s.ts).err = 0 := by
  obtain ⟨he, ha⟩ := h
  cases R with
  | out => simp [Res.bind] at hR
  | err e p => simp [Res.bind] at hR
  | ok a ts =>
    obtain ⟨h3, h4, h5⟩ := ha
    obtain ⟨g1, g2, g3⟩ := chk_ok h5
    have hR : takeP k ts = .ok t ts' := hR
    unfold takeP at hR
    split at hR
    · simp at hR
    · rename_i hc
      have hc := Classical.not_not.1 hc
      cases hs : stepP false ts with
      | out => rw [hs] at hR; simp [Res.bind] at hR
      | err e p => rw [hs] at hR; simp [Res.bind] at hR
      | ok b ts2 =>
        rw [hs] at hR
        simp only [Res.bind, Res.ok.injEq] at hR
        rw [h4]
        exact ⟨hR.1.symm, h3, g1.trans hc, g2⟩
theorem is_ok {k : Bs} {α : Type} {a : α} {ts : List Tk} {s : RS} (h : AtR (.ok a ts) s) : isR k s = (curK ts == k) := by
  obtain ⟨he, h3, h4, h5⟩ := h
  obtain ⟨ts', sp⟩ := s
  simp only at h3 h4
  subst h3 h4
  simp only [isR, (chk_ok h5).1]
theorem is_err {k : Bs} {α : Type} {e : Int} {p : Nat} {s : RS} (h : AtR (.err e p : Res α) s) (h1 : k ≠ k_bad) (h2 : k ≠ k_least) : isR k s = false := by
  obtain ⟨he, ha⟩ := h
  obtain ⟨ts', sp⟩ := s
  rcases ha with h | ⟨h, h3⟩
  · simp only at h; subst h; rfl
  · simp only at h h3; subst h
    simp only [isR, beq_eq_false_iff_ne]
    intro hr
    rcases (chk_err h3).1 with g | g
    · exact h1 (hr.symm.trans g)
    · exact h2 (hr.symm.trans g)
theorem stepP_bind_eq {k : Bs} {ts : List Tk} (h : curK ts = k) {β : Type} (g : List Tk → Res β) : ((takeP k ts).bind fun _ ts1 => g ts1) = (stepP false ts).bind fun _ ts1 => g ts1 := by
  unfold takeP
  rw [if_neg (fun e => e h)]
  cases stepP false ts <;> rfl
theorem take_no {k : Bs} {ts : List Tk} (h : curK ts ≠ k) {β : Type} (g : Tk → List Tk → Res β) : (takeP k ts).bind g = .err 141 (curT ts).at_ := by
  unfold takeP
  rw [if_pos h]; rfl
def argsR (F : PF) (d : Nat) : Nat → List Ex → List Tk → Res (List Ex)
  | 0, _, _ => .out
  | n + 1, l, ts => if curK ts = s_comma then (stepP false ts).bind fun _ ts1 => (F.expr 0 d ts1).bind fun e ts2 => argsR F d n (l ++ [e]) ts2
    else (takeP s_rp ts).bind fun _ ts1 => .ok l ts1
theorem args_R (F : PF) (d : Nat) : ∀ (n : Nat) (l : List Ex) (ts : List Tk), l ≠ [] → argsP F d n l ts = argsR F d n l ts
  | 0, _, _, _ => rfl
  | n + 1, l, ts, hl => by
    unfold argsP argsR
    have hl0 : l.length ≠ 0 := fun e => hl (List.eq_nil_of_length_eq_zero e)
    by_cases h1 : curK ts = s_rp
    · rw [if_pos h1, if_neg (by rw [h1]; decide)]
    · rw [if_neg h1, if_pos hl0]
      have hb : ∀ {γ : Type} (g : List Tk → Res γ), (((takeP s_comma ts).bind fun _ ts1 => (.ok () ts1 : Res Unit)).bind fun _ ts1 => g ts1) = (takeP s_comma ts).bind fun _ ts1 => g ts1 := fun g => by cases takeP s_comma ts <;> rfl
      rw [hb]
      by_cases h2 : curK ts = s_comma
      · rw [if_pos h2, stepP_bind_eq h2]
        congr 1
        funext _ ts1
        congr 1
        funext e ts2
        exact args_R F d n (l ++ [e]) ts2 (by simp)
      · rw [if_neg h2, take_no h2, take_no h1]
def namesR : Nat → List Bs → List Tk → Res (List Bs)
  | 0, _, _ => .out
  | n + 1, l, ts => if curK ts = s_comma then (stepP false ts).bind fun _ ts1 => (takeP k_name ts1).bind fun t ts2 => namesR n (l ++ [t.text]) ts2
    else (takeP s_rp ts).bind fun _ ts1 => .ok l ts1
theorem names_R : ∀ (n : Nat) (l : List Bs) (ts : List Tk), l ≠ [] → ((loopN n l ts).bind fun ps ts1 => (takeP s_rp ts1).bind fun _ ts2 => .ok ps ts2) = namesR n l ts
  | 0, _, _, _ => rfl
  | n + 1, l, ts, hl => by
    unfold loopN namesR
    have hl0 : l.length ≠ 0 := fun e => hl (List.eq_nil_of_length_eq_zero e)
    by_cases h1 : curK ts = s_rp
    · rw [if_pos h1, if_neg (by rw [h1]; decide)]; rfl
    · rw [if_neg h1, if_pos hl0]
      have hb : ∀ {γ : Type} (g : List Tk → Res γ), (((takeP s_comma ts).bind fun _ ts1 => (.ok () ts1 : Res Unit)).bind fun _ ts1 => g ts1) = (takeP s_comma ts).bind fun _ ts1 => g ts1 := fun g => by cases takeP s_comma ts <;> rfl
      have ha : ∀ {β γ δ : Type} (r : Res β) (g : β → List Tk → Res γ) (q : γ → List Tk → Res δ), (r.bind g).bind q = r.bind fun a ts => (g a ts).bind q := fun r g q => by cases r <;> rfl
      rw [hb]
      by_cases h2 : curK ts = s_comma
      · rw [if_pos h2, stepP_bind_eq h2, ha]
        congr 1
        funext _ ts1
        rw [ha]
        congr 1
        funext t ts2
        exact names_R n (l ++ [t.text]) ts2 (by simp)
      · rw [if_neg h2, take_no h2, take_no h1]; rfl
theorem val_cons (c : UInt8) (r : Bs) : val (c :: r) = (c.toNat - 48) * 10 ^ r.length + val r := by
  have key : ∀ (r : Bs) (v : Nat), r.foldl (fun v c => v * 10 + (c.toNat - 48)) v = v * 10 ^ r.length + val r := by
    intro r
    induction r with
    | nil => intro v; simp [val]
    | cons x r ih =>
      intro v
      have h1 : val (x :: r) = r.foldl (fun v c => v * 10 + (c.toNat - 48)) (0 * 10 + (x.toNat - 48)) := rfl
      rw [h1, List.foldl_cons, ih, ih, List.length_cons, Nat.pow_succ]
      rw [Nat.add_mul, Nat.add_mul]
      have : v * 10 * 10 ^ r.length = v * (10 ^ r.length * 10) := by rw [Nat.mul_assoc, Nat.mul_comm 10]
      omega
  have h1 : val (c :: r) = r.foldl (fun v c => v * 10 + (c.toNat - 48)) (0 * 10 + (c.toNat - 48)) := rfl
  rw [h1, key]
  congr 2
  omega
theorem val_lt : ∀ {s : Bs}, Digs s → val s < 10 ^ s.length
  | [], _ => by simp [val]
  | c :: r, h => by
    have h1 := val_lt (s := r) fun x hx => h x (by simp [hx])
    have h2 := dig_range (h c (by simp))
    rw [val_cons, List.length_cons, Nat.pow_succ]
    have : (c.toNat - 48) * 10 ^ r.length ≤ 9 * 10 ^ r.length := Nat.mul_le_mul_right _ (by omega)
    omega
theorem less_val : ∀ {a b : Bs}, Digs a → Digs b → a.length = b.length → (Op.bytesLess a b = true ↔ val a < val b)
  | [], [], _, _, _ => by simp [Op.bytesLess, val]
  | [], _ :: _, _, _, h => by simp at h
  | _ :: _, [], _, _, h => by simp at h
  | x :: a, y :: b, ha, hb, h => by
    have hl : a.length = b.length := by simpa using h
    have ha' : Digs a := fun c hc => ha c (by simp [hc])
    have hb' : Digs b := fun c hc => hb c (by simp [hc])
    have ih := less_val ha' hb' hl
    have h1 := dig_range (ha x (by simp))
    have h2 := dig_range (hb y (by simp))
    have l1 := val_lt ha'
    have l2 := val_lt hb'
    rw [val_cons, val_cons, Op.bytesLess, hl]
    rw [hl] at l1
    simp only [Bool.or_eq_true, decide_eq_true_eq, Bool.and_eq_true, beq_iff_eq, ih]
    have hxy : x < y ↔ x.toNat < y.toNat := UInt8.lt_iff_toNat_lt
    rw [hxy]
    constructor
    · rintro (h | ⟨rfl, h⟩)
      · have : (x.toNat - 48 + 1) * 10 ^ b.length ≤ (y.toNat - 48) * 10 ^ b.length := Nat.mul_le_mul_right _ (by omega)
        rw [Nat.add_mul] at this
        omega
      · omega
    · intro h
      rcases Nat.lt_trichotomy x.toNat y.toNat with h3 | h3 | h3
      · exact .inl h3
      · refine .inr ⟨UInt8.toNat_inj.1 h3, ?_⟩
        rw [h3] at h
        omega
      · exfalso
        have : (y.toNat - 48 + 1) * 10 ^ b.length ≤ (x.toNat - 48) * 10 ^ b.length := Nat.mul_le_mul_right _ (by omega)
        rw [Nat.add_mul] at this
        omega
theorem val_inj : ∀ {a b : Bs}, Digs a → Digs b → a.length = b.length → val a = val b → a = b
  | [], [], _, _, _, _ => rfl
  | [], _ :: _, _, _, h, _ => by simp at h
  | _ :: _, [], _, _, h, _ => by simp at h
  | x :: a, y :: b, ha, hb, h, hv => by
    have hl : a.length = b.length := by simpa using h
    have ha' : Digs a := fun c hc => ha c (by simp [hc])
    have hb' : Digs b := fun c hc => hb c (by simp [hc])
    have h1 := dig_range (ha x (by simp))
    have h2 := dig_range (hb y (by simp))
    have l1 := val_lt ha'
    have l2 := val_lt hb'
    rw [val_cons, val_cons, hl] at hv
    rw [hl] at l1
    have hx : x.toNat = y.toNat := by
      rcases Nat.lt_trichotomy x.toNat y.toNat with h3 | h3 | h3
      · have : (x.toNat - 48 + 1) * 10 ^ b.length ≤ (y.toNat - 48) * 10 ^ b.length := Nat.mul_le_mul_right _ (by omega)
        rw [Nat.add_mul] at this
        omega
      · exact h3
      · have : (y.toNat - 48 + 1) * 10 ^ b.length ≤ (x.toNat - 48) * 10 ^ b.length := Nat.mul_le_mul_right _ (by omega)
        rw [Nat.add_mul] at this
        omega
    obtain rfl := UInt8.toNat_inj.1 hx
    rw [val_inj ha' hb' hl (by omega)]
def mostB : Bs := [57, 50, 50, 51, 51, 55, 50, 48, 51, 54, 56, 53, 52, 55, 55, 53, 56, 48, 55]
def leastB : Bs := [57, 50, 50, 51, 51, 55, 50, 48, 51, 54, 56, 53, 52, 55, 55, 53, 56, 48, 56]
def leB (a b : Bs) : Bool := Op.bytesLess a b || a == b
theorem le_val {a b : Bs} (ha : Digs a) (hb : Digs b) (h : a.length = b.length) : leB a b = true ↔ val a ≤ val b := by
  unfold leB
  rw [Bool.or_eq_true, less_val ha hb h, beq_iff_eq]
  constructor
  · rintro (h | rfl)
    · omega
    · omega
  · intro h2
    rcases Nat.lt_or_eq_of_le h2 with h3 | h3
    · exact .inl h3
    · exact .inr (val_inj ha hb h h3)
theorem digs_most : Digs mostB := by unfold Digs; decide
theorem digs_least : Digs leastB := by unfold Digs; decide
theorem val_most : val mostB = 9223372036854775807 := by decide
theorem val_least : val leastB = 9223372036854775808 := by decide
theorem num_bad {s : Bs} {p : Nat} (h : (1 < s.length ∧ s.head?.map UInt8.toNat = some 48) ∨ 19 < s.length) : number s p = ⟨k_number, s, p, 0, 143⟩ := by
  have h0 : s ≠ [48] := by
    rintro rfl
    simp at h
  unfold number negOf
  rw [if_neg h0, if_pos (by rcases h with h | h; exact .inr (.inr h.2); exact .inl h)]
theorem num_ok {s : Bs} {p : Nat} (hd : Digs s) (hne : s ≠ []) (h : ¬ ((1 < s.length ∧ s.head?.map UInt8.toNat = some 48) ∨ 19 < s.length)) (h2 : s.length < 19 ∨ leB s mostB = true) : number s p = ⟨k_number, s, p, -(val s : Int), 0⟩ ∧ val s ≤ 9223372036854775807 := by
  have hv : val s ≤ 9223372036854775807 := by
    rcases h2 with h2 | h2
    · have := val_lt hd
      have h3 : 10 ^ s.length ≤ 10 ^ 18 := Nat.pow_le_pow_right (by decide) (by omega)
      omega
    · by_cases h3 : s.length < 19
      · have := val_lt hd
        have h3 : 10 ^ s.length ≤ 10 ^ 18 := Nat.pow_le_pow_right (by decide) (by omega)
        omega
      · have := (le_val hd digs_most (by show s.length = 19; omega)).1 h2
        rwa [val_most] at this
  refine ⟨?_, hv⟩
  by_cases h0 : s = [48]
  · subst h0; rfl
  · unfold number negOf
    rw [if_neg h0, if_neg]
    rintro (e | e | e)
    · omega
    · omega
    · apply h
      refine .inl ⟨?_, e⟩
      cases s with
      | nil => exact absurd rfl hne
      | cons c r =>
        cases r with
        | nil =>
          exfalso
          apply h0
          simp only [List.head?_cons, Option.map_some, Option.some.injEq] at e
          have : c = 48 := UInt8.toNat_inj.1 e
          rw [this]
        | cons c2 r => simp
theorem num_least {p : Nat} : number leastB p = ⟨k_number, leastB, p, -9223372036854775808, 0⟩ := by
  unfold number negOf
  rw [if_neg (by decide), if_neg (by decide)]
  rfl
theorem num_big {s : Bs} {p : Nat} (hd : Digs s) (h : s.length = 19) (h2 : leB s mostB = false) (h3 : s ≠ leastB) : number s p = ⟨k_number, s, p, 0, 143⟩ := by
  have h4 : ¬ val s ≤ 9223372036854775807 := fun e => by
    have := (le_val hd digs_most h).2 (by rw [val_most]; exact e)
    rw [h2] at this; cases this
  have h5 : val s ≠ 9223372036854775808 := fun e => h3 (val_inj hd digs_least h (by rw [e, val_least]))
  unfold number negOf
  rw [if_neg (by rintro rfl; simp at h), if_pos (.inr (.inl (by omega)))]
end Go.Tx
namespace Go.Proofs.YtfnjodpehomgfaaGreatDoor
open Go Go.Sh Go.Tx
attribute [local irreducible] Blk Ext RdS
theorem bs_tl (l : Bs) : (bs l).toList = l := by rw [ByteArray.toList_eq]; exact bs_toList l
theorem run_leq {P : Program} {t : TypeId} {x y : Operand} {l m : Bs} (w : World) : (do eqGuard .leq t x y (.string (bs l)) (.string (bs m)); binOp .leq t (.string (bs l)) (.string (bs m)) : Sem Value).run P w = .ok (.bool (leB l m)) w := by
  have hg : (eqGuard .leq t x y (.string (bs l)) (.string (bs m))).run P w = .ok () w := by unfold eqGuard; simp
  simp [hg, binOp, Op.stringOp, bs_tl, leB]
theorem QSm.strcut {P : Program} {T : Tab} {W : World → Prop} {w : World} {Rl : World → World → Prop} {k : Value → Prop} {t : TypeId} {ti : TI} {l : Bs} (hW : QW W w Rl) (hT : TabOk P T) {kl kh : IntKind} {a b : Int} {i j : Nat} (hi : i ≤ j) (hj : j ≤ l.length) (hk : k (.string (bs ((l.drop i).take (j - i))))) (ht : getT T.ts t = some ti := by rfl) (hd : ti.desc = .string := by rfl) (ha : a = (i : Int) := by first | with_reducible rfl | assumption) (hb : b = (j : Int) := by first | with_reducible rfl | assumption) : QSm P (Instr.sliceAt t (.string (bs l)) (some (.int kl a)) (some (.int kh b)) none) W k := by
  subst ha hb
  exact QSm.mk hW (fun w' _ => run_strcut hT ht hd hi hj w') hk
theorem QSm.strix {P : Program} {T : Tab} {W : World → Prop} {w : World} {Rl : World → World → Prop} {k : Value → Prop} {t : TypeId} {ti : TI} {l : Bs} (hW : QW W w Rl) (hT : TabOk P T) {kl : IntKind} {a : Int} {j : Nat} {b : UInt8} (hk : k (.int .u8 (b.toNat : Int))) (ht : getT T.ts t = some ti := by rfl) (hd : ti.desc = .string := by rfl) (ha : a = (j : Int) := by first | with_reducible rfl | assumption) (hx : l[j]? = some b := by assumption) : QSm P (Instr.index t (.string (bs l)) (.int kl a)) W k := by
  subst ha
  exact QSm.mk hW (fun w' _ => run_strix hT ht hd hx w') hk
theorem letter_r (c : UInt8) (w : World) : Cl Tryz.prog 77 #[.int .u8 (c.toNat : Int)] w (fun v w' => v = .bool (letter c) ∧ Ext w w') (fun _ _ => False) := by
  refine calls_ex (args := [.int .u8 (c.toNat : Int)]) T.ok Tryz.func77 rfl rfl rfl rfl ?_
  have H := Hp.begin nw w
  repeat' ((conv => whnf); first | refine ztS ?_ | (refine ztB ?_ ?_ <;> intro _ <;> try (exfalso; omega)) | (refine ztA ?_; clear H; intro _ _ H _) | fail)
  all_goals (refine ⟨b_eq ?_, H.e⟩; rw [Bool.eq_iff_iff]; simp only [letter, decide_eq_true_eq, beq_iff_eq, iff_true, true_iff, Bool.false_eq_true, false_iff]; omega)
theorem digit_r (c : UInt8) (w : World) : Cl Tryz.prog 78 #[.int .u8 (c.toNat : Int)] w (fun v w' => v = .bool (digit c) ∧ Ext w w') (fun _ _ => False) := by
  refine calls_ex (args := [.int .u8 (c.toNat : Int)]) T.ok Tryz.func78 rfl rfl rfl rfl ?_
  have H := Hp.begin nw w
  repeat' ((conv => whnf); first | refine ztS ?_ | (refine ztB ?_ ?_ <;> intro _ <;> try (exfalso; omega)) | (refine ztA ?_; clear H; intro _ _ H _) | fail)
  all_goals (refine ⟨b_eq ?_, H.e⟩; rw [Bool.eq_iff_iff]; simp only [digit, decide_eq_true_eq, iff_true, true_iff, Bool.false_eq_true, false_iff]; omega)
theorem keywords_r (w : World) : Cl Tryz.prog 102 #[] w (fun v w' => ∃ A c, v = .slice A keywords.length c ∧ Hp nw w w' [qu strE 1 9 A c keywords]) (fun _ _ => False) := by
  refine calls_ex (args := []) T.ok Tryz.func102 rfl rfl rfl rfl ?_
  have H := Hp.begin nw w
  repeat' ((conv => whnf); first | refine ztS ?_ | (refine ztB ?_ ?_ <;> intro _ <;> try (exfalso; omega)) | (refine ztA ?_; clear H; intro _ _ H _) | fail)
  refine Sm.lith (cs := keywords.flatMap strE) H T.ok (fun p w4 H _ => ?_)
  repeat' ((conv => whnf); first | refine ztS ?_ | (refine ztB ?_ ?_ <;> intro _ <;> try (exfalso; omega)) | (refine ztA ?_; clear H; intro _ _ H _) | fail)
  exact ⟨some ⟨p, 0, none⟩, 15, rfl, Hp.bq (sz := 1) H (fun z _ => rfl)⟩
theorem signs_r (w : World) : Cl Tryz.prog 103 #[] w (fun v w' => ∃ A c, v = .slice A signs.length c ∧ Hp nw w w' [qu strE 1 9 A c signs]) (fun _ _ => False) := by
  refine calls_ex (args := []) T.ok Tryz.func103 rfl rfl rfl rfl ?_
  have H := Hp.begin nw w
  repeat' ((conv => whnf); first | refine ztS ?_ | (refine ztB ?_ ?_ <;> intro _ <;> try (exfalso; omega)) | (refine ztA ?_; clear H; intro _ _ H _) | fail)
  refine Sm.lith (cs := signs.flatMap strE) H T.ok (fun p w4 H _ => ?_)
  repeat' ((conv => whnf); first | refine ztS ?_ | (refine ztB ?_ ?_ <;> intro _ <;> try (exfalso; omega)) | (refine ztA ?_; clear H; intro _ _ H _) | fail)
  exact ⟨some ⟨p, 0, none⟩, 24, rfl, Hp.bq (sz := 1) H (fun z _ => rfl)⟩
theorem keyword_r (s : Bs) (w : World) : Cl Tryz.prog 79 #[.string (bs s)] w (fun v w' => v = .bool (isKw s) ∧ Ext w w') (fun _ _ => False) := by
  refine calls_ex (args := [.string (bs s)]) T.ok Tryz.func79 rfl rfl rfl rfl ?_
  have H := Hp.begin nw w
  repeat' ((conv => whnf); first | refine ztS ?_ | (refine ztB ?_ ?_ <;> intro _ <;> try (exfalso; omega)) | (refine ztA ?_; clear H; intro _ _ H _) | fail)
  ((conv => whnf); refine Cl.mk (keywords_r _) ?_)
  rintro _ w2 ⟨A, c, rfl, H'⟩
  replace H := H.fr0 H' (.inl rfl)
  clear H'
  repeat' ((conv => whnf); first | refine ztS ?_ | (refine ztB ?_ ?_ <;> intro _ <;> try (exfalso; omega)) | (refine ztA ?_; clear H; intro _ _ H _) | fail)
  refine Lp.g0 T.ok (σ := Nat) (fun i => [(4, .int .i64 (i : Int)), (3, .slice A keywords.length c), (0, .string (bs s))])
    (fun i w' => i ≤ keywords.length ∧ (keywords.take i).contains s = false ∧ Hp nw w w' [qu strE 1 9 A c keywords]) (fun i _ => 15 - i) 0 rfl ⟨rfl, rfl, rfl, trivial⟩ ⟨Nat.zero_le _, rfl, H⟩ ?_
  clear H
  rintro i w5 ⟨hi, hc, H⟩
  have hkl : keywords.length = 15 := rfl
  by_cases hlt : i < keywords.length
  · obtain ⟨x, hx⟩ : ∃ x, keywords[i]? = some x := ⟨_, List.getElem?_eq_getElem hlt⟩
    have hst := contains_step (s := s) hx
    repeat' ((conv => whnf); first | refine ztS ?_ | (refine ztB ?_ ?_ <;> intro _ <;> try (exfalso; omega)) | (refine ztA ?_; clear H; intro _ _ H _) | fail)
    · rename_i hb
      rw [bs_eq] at hb
      refine ⟨b_eq ?_, H.e⟩
      have hm : s ∈ keywords := by rw [← of_decide_eq_true hb]; exact List.mem_of_getElem? hx
      exact (List.contains_iff_mem.2 hm).symm
    · rename_i hb
      rw [bs_eq] at hb
      refine ⟨i + 1, ⟨at_int (m := ((i + 1 : Nat) : Int)) rfl (w64 (by simp) (by omega) (by omega)), rfl, rfl, trivial⟩, rfl, ⟨by omega, ?_, H⟩, by omega⟩
      rw [hst, hc, Bool.false_or]
      exact beq_eq_false_iff_ne.2 (of_decide_eq_false hb)
  · have hi : i = keywords.length := by omega
    subst hi
    repeat' ((conv => whnf); first | refine ztS ?_ | (refine ztB ?_ ?_ <;> intro _ <;> try (exfalso; omega)) | (refine ztA ?_; clear H; intro _ _ H _) | fail)
    all_goals first | (exfalso; omega) | skip
    refine ⟨b_eq ?_, H.e⟩
    exact hc.symm
set_option maxHeartbeats 2000000 in
theorem sign_r (l : Bs) (a : Nat) (w : World) (ha : a ≤ l.length) (hl : l.length ≤ 1000000) : Cl Tryz.prog 81 #[.string (bs l), .int .i64 (a : Int)] w (fun v w' => v = .string (bs ((signAt (l.drop a)).getD [])) ∧ Ext w w') (fun _ _ => False) := by
  refine calls_ex (args := [.string (bs l), .int .i64 (a : Int)]) T.ok Tryz.func81 rfl rfl rfl rfl ?_
  have H := Hp.begin nw w
  have hsz := bs_size l
  repeat' ((conv => whnf); first | refine ztS ?_ | (refine ztB ?_ ?_ <;> intro _ <;> try (exfalso; omega)) | (refine ztA ?_; clear H; intro _ _ H _) | fail)
  ((conv => whnf); refine Cl.mk (signs_r _) ?_)
  rintro _ w2 ⟨A, c, rfl, H'⟩
  replace H := H.fr0 H' (.inl rfl)
  clear H'
  repeat' ((conv => whnf); first | refine ztS ?_ | (refine ztB ?_ ?_ <;> intro _ <;> try (exfalso; omega)) | (refine ztA ?_; clear H; intro _ _ H _) | fail)
  refine Lp.g0 T.ok (σ := Nat) (fun i => [(6, .int .i64 (i : Int)), (5, .slice A signs.length c), (0, .string (bs l)), (1, .int .i64 (a : Int))])
    (fun i w' => i ≤ signs.length ∧ (signs.take i).find? (fun t => (l.drop a).take t.length == t) = none ∧ Hp nw w w' [qu strE 1 9 A c signs]) (fun i _ => 24 - i) 0 rfl ⟨rfl, rfl, rfl, rfl, trivial⟩ ⟨Nat.zero_le _, rfl, H⟩ ?_
  clear H
  rintro i w5 ⟨hi, hno, H⟩
  have hkl : signs.length = 24 := rfl
  by_cases hlt : i < signs.length
  · obtain ⟨x, hx⟩ : ∃ x, signs[i]? = some x := ⟨_, List.getElem?_eq_getElem hlt⟩
    obtain ⟨hx1, hx2⟩ := List.getElem?_eq_some_iff.1 hx
    have hxs : (bs x).size = x.length := bs_size x
    have hx24 : x.length ≤ 2 := by
      have : ∀ t ∈ signs, t.length ≤ 2 := by decide
      exact this x (List.mem_of_getElem? hx)
    have hwx : IntKind.i64.wrap ((a : Int) + ((bs x).size : Int)) = ((a + x.length : Nat) : Int) := w64 (by omega) (by omega) (by omega)
    have htk : (signs.take (i + 1)) = signs.take i ++ [x] := by rw [List.take_succ_eq_append_getElem hx1, hx2]
    repeat' ((conv => whnf); first | refine ztS ?_ | (refine ztB ?_ ?_ <;> intro _ <;> try (exfalso; omega)) | (refine ztA ?_; clear H; intro _ _ H _) | fail)
    ((conv => whnf); refine Dr.quiet T.ok mixed (by kernel_rfl) (fun W hW => ?_))
    by_cases hroom : a + x.length ≤ l.length
    · repeat' (first | ((conv => whnf); first | refine ztQ ?_ | (refine ztB ?_ ?_ <;> intro _ <;> try (exfalso; omega)) | fail) | ((conv => whnf); refine QSm.strcut hW T.ok (i := a) (j := a + x.length) (by omega) (by omega) ?_))
      all_goals first | (exfalso; omega) | skip
      (intro _ eT; replace H := H.ext eT; clear hW eT)
      repeat' ((conv => whnf); first | refine ztS ?_ | (refine ztB ?_ ?_ <;> intro _ <;> try (exfalso; omega)) | (refine ztA ?_; clear H; intro _ _ H _) | fail)
      · have hb : (bs ((l.drop a).take (a + x.length - a)) == bs x) = true := by assumption
        rw [Nat.add_sub_cancel_left, bs_eq] at hb
        have hs : signAt (l.drop a) = some x := sign_found hno hx (beq_iff_eq.2 (of_decide_eq_true hb))
        rw [hs]
        exact ⟨rfl, H.e⟩
      · have hb : (bs ((l.drop a).take (a + x.length - a)) == bs x) = false := by assumption
        rw [Nat.add_sub_cancel_left, bs_eq] at hb
        exact ⟨i + 1, ⟨at_int (m := ((i + 1 : Nat) : Int)) rfl (w64 (by simp) (by omega) (by omega)), rfl, rfl, rfl, trivial⟩, rfl, ⟨by omega, sign_more hno htk (beq_eq_false_iff_ne.2 (of_decide_eq_false hb)), H⟩, by omega⟩
    · repeat' ((conv => whnf); first | refine ztQ ?_ | (refine ztB ?_ ?_ <;> intro _ <;> try (exfalso; omega)) | fail)
      all_goals first | (exfalso; omega) | skip
      have hnx : ((l.drop a).take x.length == x) = false := by
        refine beq_eq_false_iff_ne.2 fun e => ?_
        have := congrArg List.length e
        rw [List.length_take, List.length_drop] at this
        omega
      (intro _ eT; replace H := H.ext eT; clear hW eT)
      repeat' ((conv => whnf); first | refine ztS ?_ | (refine ztB ?_ ?_ <;> intro _ <;> try (exfalso; omega)) | (refine ztA ?_; clear H; intro _ _ H _) | fail)
      exact ⟨i + 1, ⟨at_int (m := ((i + 1 : Nat) : Int)) rfl (w64 (by simp) (by omega) (by omega)), rfl, rfl, rfl, trivial⟩, rfl, ⟨by omega, sign_more hno htk hnx, H⟩, by omega⟩
  · have hi : i = signs.length := by omega
    subst hi
    have hs : signAt (l.drop a) = none := hno
    rw [hs]
    repeat' ((conv => whnf); first | refine ztS ?_ | (refine ztB ?_ ?_ <;> intro _ <;> try (exfalso; omega)) | (refine ztA ?_; clear H; intro _ _ H _) | fail)
    all_goals first | (exfalso; omega) | skip
    exact ⟨rfl, H.e⟩
end Go.Proofs.YtfnjodpehomgfaaGreatDoor
namespace Go.Proofs.YtfnjodpehomgfaaGreatDoor
open Go Go.Sh Go.Tx
attribute [local irreducible] Blk Ext RdS
set_option maxHeartbeats 2000000 in
theorem blanks_r (l : Bs) (p0 : Nat) (w : World) (hp : p0 ≤ l.length) (hl : l.length ≤ 1000000) :
    Cl Tryz.prog 50 #[.string (bs l), .int .i64 (p0 : Int)] w (fun v w' => v = .int .i64 (skp false (l.drop p0) p0 : Int) ∧ Ext w w') (fun _ _ => False) := by
  refine calls_ex (args := [.string (bs l), .int .i64 (p0 : Int)]) T.ok Tryz.func50 rfl rfl rfl rfl ?_
  have H := Hp.begin nw w
  have hsz := bs_size l
  repeat' ((conv => whnf); first | refine ztS ?_ | (refine ztB ?_ ?_ <;> intro _ <;> try (exfalso; omega)) | (refine ztA ?_; clear H; intro _ _ H _) | fail)
  refine Lp.g0 T.ok (σ := Nat) (fun p => [(1, .int .i64 (p : Int)), (0, .string (bs l))])
    (fun p w' => p ≤ l.length ∧ skp false (l.drop p) p = skp false (l.drop p0) p0 ∧ Hp nw w w' []) (fun p _ => l.length - p) p0 rfl ⟨rfl, rfl, trivial⟩ ⟨hp, rfl, H⟩ ?_
  clear H
  rintro p w5 ⟨hpl, hsk, H⟩
  by_cases hlt : p < l.length
  case neg =>
    repeat' ((conv => whnf); first | refine ztS ?_ | (refine ztB ?_ ?_ <;> intro _ <;> try (exfalso; omega)) | (refine ztA ?_; clear H; intro _ _ H _) | fail)
    all_goals first | (exfalso; omega) | skip
    refine ⟨i_eq ?_, H.e⟩
    rw [← hsk, skp_end false l (by omega)]
  obtain ⟨c, hc⟩ : ∃ c, l[p]? = some c := ⟨_, List.getElem?_eq_getElem hlt⟩
  have hw1 : IntKind.i64.wrap ((p : Int) + 1) = ((p + 1 : Nat) : Int) := w64 rfl (by omega) (by omega)
  have hsf := skp_f hc
  by_cases hbl : Tx.blank c = true
  · rw [if_pos hbl, hsk] at hsf
    have hbl2 := hbl
    simp only [Tx.blank, decide_eq_true_eq] at hbl2
    repeat' ((conv => whnf); first | refine ztT ?_ | (refine ztB ?_ ?_ <;> intro _ <;> try (exfalso; omega)) | (refine ztA ?_; clear H; intro _ _ H _) | fail)
    all_goals first | (exfalso; omega) | skip
    all_goals exact ⟨p + 1, ⟨at_int rfl hw1, rfl, trivial⟩, rfl, ⟨by omega, hsf.symm, H⟩, by omega⟩
  · rw [if_neg hbl, hsk] at hsf
    have hbl2 := hbl
    simp only [Tx.blank, decide_eq_true_eq] at hbl2
    by_cases h47 : c.toNat = 47 ∧ (l[p + 1]?).map UInt8.toNat = some 47
    · rw [if_pos h47] at hsf
      obtain ⟨d, hd, hd2⟩ : ∃ d, l[p + 1]? = some d ∧ d.toNat = 47 := by
        have h2 := h47.2
        cases hx : l[p + 1]? with
        | none => rw [hx] at h2; simp at h2
        | some d => rw [hx] at h2; exact ⟨d, rfl, by simpa using h2⟩
      have hd1 := (List.getElem?_eq_some_iff.1 hd).1
      have h471 := h47.1
      repeat' ((conv => whnf); first | refine ztT ?_ | (refine ztB ?_ ?_ <;> intro _ <;> try (exfalso; omega)) | (refine ztA ?_; clear H; intro _ _ H _) | fail)
      all_goals first | (exfalso; omega) | skip
      have hst := skp_t hc
      rw [if_neg (by omega)] at hst
      refine Lp.g0 T.ok (σ := Nat) (fun q => [(1, .int .i64 (q : Int)), (0, .string (bs l))])
        (fun q w' => p ≤ q ∧ q ≤ l.length ∧ skp true (l.drop q) q = skp false (l.drop p0) p0 ∧ Hp nw w w' []) (fun q _ => l.length - q) p rfl ⟨rfl, rfl, trivial⟩ ⟨Nat.le_refl _, hpl, by rw [hst, ← hsf], H⟩ ?_
      clear H
      rintro q w6 ⟨hpq, hql, hsq, H⟩
      have hout : (q = l.length ∨ ∃ e, l[q]? = some e ∧ e.toNat = 10) → p < q ∧ skp false (l.drop q) q = skp false (l.drop p0) p0 := fun h => by
        rcases h with h | ⟨e, he, he2⟩
        · refine ⟨by omega, ?_⟩
          rw [← hsq, skp_end true l (by omega), skp_end false l (by omega)]
        · refine ⟨?_, ?_⟩
          · rcases Nat.lt_or_eq_of_le hpq with h | rfl
            · exact h
            · rw [hc] at he
              simp only [Option.some.injEq] at he
              subst he
              omega
          · rw [← hsq, skp_t he, if_pos he2, skp_f he, if_pos (by simp only [Tx.blank, decide_eq_true_eq]; omega)]
      by_cases hqlt : q < l.length
      · obtain ⟨e, he⟩ : ∃ e, l[q]? = some e := ⟨_, List.getElem?_eq_getElem hqlt⟩
        have hwq : IntKind.i64.wrap ((q : Int) + 1) = ((q + 1 : Nat) : Int) := w64 rfl (by omega) (by omega)
        by_cases he2 : e.toNat = 10
        · obtain ⟨h1, h2⟩ := hout (.inr ⟨e, he, he2⟩)
          repeat' ((conv => whnf); first | refine ztT ?_ | (refine ztB ?_ ?_ <;> intro _ <;> try (exfalso; omega)) | (refine ztA ?_; clear H; intro _ _ H _) | fail)
          all_goals first | (exfalso; omega) | skip
          exact ⟨q, ⟨rfl, rfl, trivial⟩, rfl, ⟨hql, h2, H⟩, by omega⟩
        · have hsq2 := skp_t he
          rw [if_neg he2] at hsq2
          repeat' ((conv => whnf); first | refine ztT ?_ | (refine ztB ?_ ?_ <;> intro _ <;> try (exfalso; omega)) | (refine ztA ?_; clear H; intro _ _ H _) | fail)
          all_goals first | (exfalso; omega) | skip
          exact ⟨q + 1, ⟨at_int rfl hwq, rfl, trivial⟩, rfl, ⟨by omega, by omega, by rw [← hsq2, hsq], H⟩, by omega⟩
      · obtain ⟨h1, h2⟩ := hout (.inl (by omega))
        repeat' ((conv => whnf); first | refine ztT ?_ | (refine ztB ?_ ?_ <;> intro _ <;> try (exfalso; omega)) | (refine ztA ?_; clear H; intro _ _ H _) | fail)
        all_goals first | (exfalso; omega) | skip
        exact ⟨q, ⟨rfl, rfl, trivial⟩, rfl, ⟨hql, h2, H⟩, by omega⟩
    · rw [if_neg h47] at hsf
      have hfin : ∀ w', Ext w w' → Value.int .i64 (p : Int) = .int .i64 (skp false (l.drop p0) p0 : Int) ∧ Ext w w' := fun w' e => ⟨by rw [hsf], e⟩
      by_cases h471 : c.toNat = 47
      · by_cases hp1 : p + 1 < l.length
        · obtain ⟨d, hd⟩ : ∃ d, l[p + 1]? = some d := ⟨_, List.getElem?_eq_getElem hp1⟩
          have hd2 : d.toNat ≠ 47 := fun e => h47 ⟨h471, by rw [hd]; simpa using e⟩
          repeat' ((conv => whnf); first | refine ztT ?_ | (refine ztB ?_ ?_ <;> intro _ <;> try (exfalso; omega)) | (refine ztA ?_; clear H; intro _ _ H _) | fail)
          all_goals first | (exfalso; omega) | skip
          all_goals exact hfin _ H.e
        · repeat' ((conv => whnf); first | refine ztT ?_ | (refine ztB ?_ ?_ <;> intro _ <;> try (exfalso; omega)) | (refine ztA ?_; clear H; intro _ _ H _) | fail)
          all_goals first | (exfalso; omega) | skip
          all_goals exact hfin _ H.e
      · repeat' ((conv => whnf); first | refine ztT ?_ | (refine ztB ?_ ?_ <;> intro _ <;> try (exfalso; omega)) | (refine ztA ?_; clear H; intro _ _ H _) | fail)
        all_goals first | (exfalso; omega) | skip
        all_goals exact hfin _ H.e
def rwE (src : Bs) (t : Tk) : List Value := [.string (bs (rKind t)), .int .i64 (t.at_ : Int), .string (bs (rText src t)), .int .i64 t.err]
theorem run_leqM {P : Program} {t : TypeId} {x y : Operand} {l : Bs} (c : ByteArray) (m : Bs) (hc : c = bs m) (w : World) : (do eqGuard .leq t x y (.string (bs l)) (.string c); binOp .leq t (.string (bs l)) (.string c) : Sem Value).run P w = .ok (.bool (leB l m)) w := by
  subst hc; exact run_leq w
set_option maxHeartbeats 1000000 in
theorem numberKind_r (s : Bs) (w : World) (hd : Digs s) (hne : s ≠ []) (hl : s.length ≤ 1000000) :
    Cl Tryz.prog 80 #[.string (bs s)] w (fun v w' => v = .agg #[.string (bs (rKind (number s 0))), .int .i64 0, .string (bs []), .int .i64 (number s 0).err] ∧ Ext w w') (fun _ _ => False) := by
  refine calls_ex (args := [.string (bs s)]) T.ok Tryz.func80 rfl rfl rfl rfl ?_
  have H := Hp.begin nw w
  have hsz := bs_size s
  have hsm := bs_size mostB
  obtain ⟨c, hc⟩ : ∃ c, s[0]? = some c := ⟨s[0]'(List.length_pos_iff.2 hne), List.getElem?_eq_getElem _⟩
  have hhd : s.head?.map UInt8.toNat = some c.toNat := by
    cases s with
    | nil => simp at hc
    | cons x r => simp at hc; simp [hc]
  have hbad : (1 < s.length ∧ c.toNat = 48) ∨ 19 < s.length → ∀ w', Ext w w' → Value.agg #[.string (bs k_bad), .int .i64 0, .string (bs []), .int .i64 143] = .agg #[.string (bs (rKind (number s 0))), .int .i64 0, .string (bs []), .int .i64 (number s 0).err] ∧ Ext w w' := fun h w' e => by
    rw [num_bad (by rw [hhd]; rcases h with h | h; exact .inl ⟨h.1, by rw [h.2]⟩; exact .inr h)]
    exact ⟨rfl, e⟩
  refine Sq.mk ?_
  ((conv => whnf); refine Al.hp H ?_; clear H; intro p4 _ H _)
  have hm19 : (bs mostB).size = 19 := hsm
  have hm20 : (({ data := #[57, 50, 50, 51, 51, 55, 50, 48, 51, 54, 56, 53, 52, 55, 55, 53, 56, 48, 55] } : ByteArray).size : Int) = 19 := rfl
  by_cases hA : (1 < s.length ∧ c.toNat = 48) ∨ 19 < s.length
  · repeat' (first | ((conv => whnf); first | refine ztT ?_ | (refine ztB ?_ ?_ <;> intro _ <;> try (exfalso; omega)) | (refine ztA ?_; clear H; intro _ _ H _) | fail) | ((conv => whnf); (with_reducible show Sm _ _ _ _ _); first | refine Sm.strix T.ok (j := 0) ?_ (ha := rfl) | refine Sm.ran (run_leqM _ mostB rfl _) ?_))
    all_goals first | (exfalso; omega) | skip
    all_goals exact hbad hA _ H.e
  have hA' : ¬ ((1 < s.length ∧ s.head?.map UInt8.toNat = some 48) ∨ 19 < s.length) := fun h => hA (by rw [hhd] at h; rcases h with h | h; exact .inl ⟨h.1, by simpa using h.2⟩; exact .inr h)
  by_cases hB : s.length < 19 ∨ leB s mostB = true
  · have hn := num_ok (p := 0) hd hne hA' hB
    have hfin : ∀ w', Ext w w' → Value.agg #[.string (bs k_number), .int .i64 0, .string (bs []), .int .i64 0] = .agg #[.string (bs (rKind (number s 0))), .int .i64 0, .string (bs []), .int .i64 (number s 0).err] ∧ Ext w w' := fun w' e => by
      have hk : rKind (number s 0) = k_number := by
        rw [hn.1]; unfold rKind
        rw [if_neg (by simp), if_neg]
        rintro ⟨_, h⟩
        have := hn.2
        simp only at h
        omega
      rw [hk, hn.1]; exact ⟨rfl, e⟩
    repeat' (first | ((conv => whnf); first | refine ztT ?_ | (refine ztB ?_ ?_ <;> intro _ <;> try (exfalso; omega)) | (refine ztA ?_; clear H; intro _ _ H _) | fail) | ((conv => whnf); (with_reducible show Sm _ _ _ _ _); first | refine Sm.strix T.ok (j := 0) ?_ (ha := rfl) | refine Sm.ran (run_leqM _ mostB rfl _) ?_))
    all_goals first | (exfalso; omega) | skip
    all_goals first | exact hfin _ H.e | skip
    all_goals (exfalso; rcases hB with h | h; omega; simp_all)
  have h19 : s.length = 19 := by
    have : ¬ s.length < 19 := fun h => hB (.inl h)
    have : ¬ 19 < s.length := fun h => hA (.inr h)
    omega
  have hlb : leB s mostB = false := Bool.eq_false_iff.2 fun h => hB (.inr h)
  by_cases hC : s = leastB
  · repeat' (first | ((conv => whnf); first | refine ztT ?_ | (refine ztB ?_ ?_ <;> intro _ <;> try (exfalso; omega)) | (refine ztA ?_; clear H; intro _ _ H _) | fail) | ((conv => whnf); (with_reducible show Sm _ _ _ _ _); first | refine Sm.strix T.ok (j := 0) ?_ (ha := rfl) | refine Sm.ran (run_leqM _ mostB rfl _) ?_))
    all_goals first | (exfalso; omega) | skip
    · exfalso; simp_all
    · refine ⟨?_, H.e⟩
      rw [hC, num_least]; rfl
  · have hn := num_big (p := 0) hd h19 hlb hC
    repeat' (first | ((conv => whnf); first | refine ztT ?_ | (refine ztB ?_ ?_ <;> intro _ <;> try (exfalso; omega)) | (refine ztA ?_; clear H; intro _ _ H _) | fail) | ((conv => whnf); (with_reducible show Sm _ _ _ _ _); first | refine Sm.strix T.ok (j := 0) ?_ (ha := rfl) | refine Sm.ran (run_leqM _ mostB rfl _) ?_))
    all_goals first | (exfalso; omega) | skip
    · exfalso; simp_all
    · refine ⟨?_, H.e⟩
      rw [hn]; rfl
end Go.Proofs.YtfnjodpehomgfaaGreatDoor
