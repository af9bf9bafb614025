/- own work: TvD, TvE, TvF, TvG, TyF, TyG, ShI, TyH, TyI, TyJ, TyK, TyL, TyM, TyN, TyP, TyQ, TyS -/
import Derived.Shelf.Strings.Builder1
import Derived.Shelf.Strings.OnBuilder
import Derived.Shelf.Strings.Repeat
import Derived.WalkKit
import Derived.LaidEql
import Derived.Stop.Asserts
import Derived.RowKitTokens
import Derived.Shelf.Strconv.Itoa4
import Derived.Test.YtfnjodpehomgfaaGreatDoorMH2
set_option linter.unusedVariables false
set_option linter.unusedSimpArgs false
set_option linter.unusedSectionVars false
namespace Go.Proofs.YtfnjodpehomgfaaGreatDoor
open Go Go.Sh Go.Tx
attribute [local irreducible] Blk Ext RdS
mutual
def ET.Rd (w : World) : ET → Prop
  | .mk _ _ n nm cb A c ks => RdS ET.enc 6 w A ks ∧ ET.Rds w ks ∧ ks.length ≤ 9000000 ∧ nm.length ≤ 9000000 ∧ cb.length ≤ 9000000 ∧ -9223372036854775808 ≤ n ∧ n ≤ 9223372036854775807
def ET.Rds (w : World) : List ET → Prop
  | [] => True
  | x :: r => ET.Rd w x ∧ ET.Rds w r
end
mutual
theorem ET.Rd.ext {w w' : World} (e : Ext w w') : ∀ {t : ET}, ET.Rd w t → ET.Rd w' t
  | .mk _ _ _ _ _ _ _ _, h => ⟨RdS.from e h.1, ET.Rds.ext e h.2.1, h.2.2⟩
theorem ET.Rds.ext {w w' : World} (e : Ext w w') : ∀ {l : List ET}, ET.Rds w l → ET.Rds w' l
  | [], _ => trivial
  | _ :: _, h => ⟨ET.Rd.ext e h.1, ET.Rds.ext e h.2⟩
end
theorem ET.rds_mem {w : World} {x : ET} : ∀ {l : List ET}, x ∈ l → ET.Rds w l → ET.Rd w x
  | [], h, _ => by simp at h
  | y :: r, h, hk => by
    rcases List.mem_cons.1 h with rfl | h
    · exact hk.1
    · exact ET.rds_mem h hk.2
mutual
def ET.ht : ET → Nat
  | .mk _ _ _ _ _ _ _ ks => ET.hts ks + 1
def ET.hts : List ET → Nat
  | [] => 0
  | x :: r => max (ET.ht x) (ET.hts r)
end
theorem ET.ht_mem {x : ET} : ∀ {l : List ET}, x ∈ l → ET.ht x ≤ ET.hts l
  | [], h => by simp at h
  | y :: r, h => by
    simp only [ET.hts]
    rcases List.mem_cons.1 h with rfl | h
    · omega
    · have := ET.ht_mem h; omega
mutual
def SM.Rd (w : World) : SM → Prop
  | .mk _ nm e B _ b E _ f => ET.Rd w e ∧ RdS SM.enc 10 w B b ∧ SM.Rds w b ∧ RdS SM.enc 10 w E f ∧ SM.Rds w f ∧ b.length ≤ 9000000 ∧ f.length ≤ 9000000 ∧ nm.length ≤ 9000000
def SM.Rds (w : World) : List SM → Prop
  | [] => True
  | x :: r => SM.Rd w x ∧ SM.Rds w r
end
mutual
theorem SM.Rd.ext {w w' : World} (e : Ext w w') : ∀ {t : SM}, SM.Rd w t → SM.Rd w' t
  | .mk _ _ _ _ _ _ _ _ _, h => ⟨ET.Rd.ext e h.1, RdS.from e h.2.1, SM.Rds.ext e h.2.2.1, RdS.from e h.2.2.2.1, SM.Rds.ext e h.2.2.2.2.1, h.2.2.2.2.2⟩
theorem SM.Rds.ext {w w' : World} (e : Ext w w') : ∀ {l : List SM}, SM.Rds w l → SM.Rds w' l
  | [], _ => trivial
  | _ :: _, h => ⟨SM.Rd.ext e h.1, SM.Rds.ext e h.2⟩
end
theorem SM.rds_mem {w : World} {x : SM} : ∀ {l : List SM}, x ∈ l → SM.Rds w l → SM.Rd w x
  | [], h, _ => by simp at h
  | y :: r, h, hk => by
    rcases List.mem_cons.1 h with rfl | h
    · exact hk.1
    · exact SM.rds_mem h hk.2
mutual
def SM.ht : SM → Nat
  | .mk _ _ _ _ _ b _ _ f => max (SM.hts b) (SM.hts f) + 1
def SM.hts : List SM → Nat
  | [] => 0
  | x :: r => max (SM.ht x) (SM.hts r)
end
theorem SM.ht_mem {x : SM} : ∀ {l : List SM}, x ∈ l → SM.ht x ≤ SM.hts l
  | [], h => by simp at h
  | y :: r, h => by
    simp only [SM.hts]
    rcases List.mem_cons.1 h with rfl | h
    · omega
    · have := SM.ht_mem h; omega
theorem bs_nil (s : Bs) : (bs s == (⟨#[]⟩ : ByteArray)) = decide (s = []) := by
  rw [show (⟨#[]⟩ : ByteArray) = bs [] from rfl, bs_eq]
theorem opName_c (o : Int) (w : World) (hn : RdS (fun b : Bs => [Value.string (bs b)]) 1 w (some ⟨4, 0, none⟩) opNames) :
    Cl Tryz.prog 116 #[.int .i64 o] w (fun v w' => v = .string (bs (opNm o)) ∧ Ext w w') (fun _ _ => False) := by
  refine calls_ex (args := [.int .i64 o]) T.ok Tryz.func116 rfl rfl rfl rfl ?_
  have H := Hp.begin nw w
  have hop : ∀ w', Cl Tryz.prog 140 #[.int .i64 o] w' (fun v w'' => v = .bool (decide (0 ≤ o ∧ o < 16)) ∧ Ext w' w'') (fun _ _ => False) := fun w' => by
    refine calls_ex (args := [.int .i64 o]) T.ok Tryz.func140 rfl rfl rfl rfl ?_
    have H := Hp.begin nw w'
    repeat' ((conv => whnf); first | refine ztT ?_ | (refine ztB ?_ ?_ <;> intro _ <;> try (exfalso; omega)) | (refine ztA ?_; clear H; intro _ _ H _) | fail)
    all_goals first | (exfalso; omega) | exact ⟨b_eq (by simp; omega), H.e⟩
  repeat' ((conv => whnf); first | refine ztT ?_ | (refine ztB ?_ ?_ <;> intro _ <;> try (exfalso; omega)) | (refine ztA ?_; clear H; intro _ _ H _) | fail)
  (((conv => whnf); refine Cl.mk (hop _) ?_); rintro _ _ ⟨rfl, hx⟩; replace H := H.ext hx; clear hx)
  by_cases h : 0 ≤ o ∧ o < 16
  · obtain ⟨k, rfl⟩ : ∃ k : Nat, o = (k : Int) := ⟨o.toNat, by omega⟩
    have hk : k < 16 := by omega
    obtain ⟨x, hx⟩ : ∃ x, opNames[k]? = some x := ⟨_, List.getElem?_eq_getElem (show k < opNames.length from hk)⟩
    have hlen : opNames.length = 16 := rfl
    rw [decide_eq_true h]
    repeat' ((conv => whnf); first | refine ztT ?_ | (refine ztB ?_ ?_ <;> intro _ <;> try (exfalso; omega)) | (refine ztA ?_; clear H; intro _ _ H _) | fail)
    refine ⟨?_, H.e⟩
    unfold opNm
    rw [if_pos h, Int.toNat_natCast, hx]; rfl
  · rw [decide_eq_false h]
    repeat' ((conv => whnf); first | refine ztT ?_ | (refine ztB ?_ ?_ <;> intro _ <;> try (exfalso; omega)) | (refine ztA ?_; clear H; intro _ _ H _) | fail)
    refine ⟨?_, H.e⟩
    unfold opNm
    rw [if_neg h]; rfl
theorem isZero_c (t : ET) (w : World) : Cl Tryz.prog 94 #[t.v] w (fun v w' => v = .bool (zeroB t.e) ∧ Ext w w') (fun _ _ => False) := by
  obtain ⟨kd, o, n, nm, cb, A, c, ks⟩ := t
  refine calls_ex (args := [.agg #[.int .i64 kd, .int .i64 o, .int .i64 n, .string (bs nm), .string (bs cb), .slice A ks.length c]]) T.ok Tryz.func94 rfl rfl rfl rfl ?_
  have H := Hp.begin nw w
  have hk := ET.es_len ks
  repeat' ((conv => whnf); first | refine ztT ?_ | (refine ztB ?_ ?_ <;> intro _ <;> try (exfalso; omega)) | (refine ztA ?_; clear H; intro _ _ H _) | fail)
  all_goals (refine ⟨b_eq ?_, H.e⟩; first | (simp_all [ET.e, zeroB, bs_nil]; done) | (rw [Bool.eq_iff_iff]; simp_all [ET.e, zeroB, bs_nil]))
theorem exBs_at {l : List ET} {i : Nat} {x : ET} (h : l[i]? = some x) : exBs (ET.es (l.drop i)) = (exB x.e && exBs (ET.es (l.drop (i + 1)))) := by
  obtain ⟨h1, h2⟩ := List.getElem?_eq_some_iff.1 h
  rw [List.drop_eq_getElem_cons h1, h2]; rfl
set_option maxHeartbeats 4000000 in
theorem isExpr_c : ∀ (N : Nat) (t : ET) (w : World), ET.ht t ≤ N → RdK w → RdS (fun b : Bs => [Value.string (bs b)]) 1 w (some ⟨4, 0, none⟩) opNames → ET.Rd w t → Cl Tryz.prog 95 #[t.v] w (fun v w' => v = .bool (exB t.e) ∧ Ext w w') (fun _ _ => False)
  | 0, t, w, hN, _, _, _ => by cases t; simp [ET.ht] at hN
  | N + 1, .mk kd o n nm cb A c ks, w, hN, hK, hO, hR => by
    obtain ⟨hr, hrs, hlen, hnm, hcb, _⟩ := hR
    refine calls_ex (args := [.agg #[.int .i64 kd, .int .i64 o, .int .i64 n, .string (bs nm), .string (bs cb), .slice A ks.length c]]) T.ok Tryz.func95 rfl rfl rfl rfl ?_
    have H := Hp.begin nw w
    have hk := ET.es_len ks
    refine Sq.mk ?_
    ((conv => whnf); refine Al.hp H ?_; clear H; intro p1 _ H _)
    repeat' ((conv => whnf); first | refine ztT ?_ | (refine ztB ?_ ?_ <;> intro _ <;> try (exfalso; omega)) | (refine ztW ?_; clear H; intro _ _ H _) | fail)
    refine Lp.g0 T.ok (σ := Nat) (fun i => [(13, .int .i64 (i : Int)), (12, .int .i64 (ks.length : Int)), (11, .slice A ks.length c), (1, .pointer (some ⟨p1, 0, none⟩))])
      (fun i w' => i ≤ ks.length ∧ exBs (ET.es ks) = exBs (ET.es (ks.drop i)) ∧ Hp nw w w' [bk p1 74 [.int .i64 kd, .int .i64 o, .int .i64 n, .string (bs nm), .string (bs cb), .slice A ks.length c]]) (fun i _ => ks.length - i) 0 rfl ⟨rfl, rfl, rfl, rfl, trivial⟩ ⟨Nat.zero_le _, rfl, H⟩ ?_
    clear H
    rintro i w5 ⟨hi, hall, H⟩
    by_cases hlt : i < ks.length
    · obtain ⟨x, hx⟩ : ∃ x, ks[i]? = some x := ⟨_, List.getElem?_eq_getElem hlt⟩
      have hat := exBs_at hx
      have hr1 := RdS.from H.e hr
      repeat' ((conv => whnf); first | refine ztT ?_ | (refine ztB ?_ ?_ <;> intro _ <;> try (exfalso; omega)) | (refine ztW ?_; clear H; intro _ _ H _) | fail)
      ((conv => whnf); refine Al.hp H ?_; clear H; intro p4 _ H _)
      have hm := List.mem_of_getElem? hx
      have hxh := ET.ht_mem hm
      have hxr := ET.rds_mem hm hrs
      simp only [ET.ht] at hN
      obtain ⟨kx, ox, nx, mx, cx, Ax, cpx, lx⟩ := x
      repeat' ((conv => whnf); first | refine ztT ?_ | (refine ztB ?_ ?_ <;> intro _ <;> try (exfalso; omega)) | (refine ztW ?_; clear H; intro _ _ H _) | fail)
      (((conv => whnf); refine Cl.mk (isExpr_c N (.mk kx ox nx mx cx Ax cpx lx) _ (by omega) (RdS.from H.e hK) (RdS.from H.e hO) (hxr.ext H.e)) ?_); rintro _ _ ⟨rfl, hx⟩; replace H := H.ext hx; clear hx)
      cases hb : exB (ET.e (.mk kx ox nx mx cx Ax cpx lx)) with
      | true =>
        repeat' ((conv => whnf); first | refine ztT ?_ | (refine ztB ?_ ?_ <;> intro _ <;> try (exfalso; omega)) | (refine ztW ?_; clear H; intro _ _ H _) | fail)
        exact ⟨i + 1, ⟨at_int (m := ((i + 1 : Nat) : Int)) rfl (w64 (by simp) (by omega) (by omega)), rfl, rfl, rfl, trivial⟩, rfl, ⟨by omega, by rw [hall, hat, hb, Bool.true_and], H.sel [1] rfl⟩, by omega⟩
      | false =>
        repeat' ((conv => whnf); first | refine ztT ?_ | (refine ztB ?_ ?_ <;> intro _ <;> try (exfalso; omega)) | (refine ztW ?_; clear H; intro _ _ H _) | fail)
        refine ⟨b_eq ?_, H.e⟩
        show false = (exBs (ET.es ks) && _)
        rw [hall, hat, hb]; rfl
    · have hall1 : exBs (ET.es ks) = true := by rw [hall, List.drop_of_length_le (by omega)]; rfl
      have hE : ∀ b, hdB kd o n nm cb ks.length = b → exB (ET.e (.mk kd o n nm cb A c ks)) = b := fun b h => by rw [← h, ← hk]; show (exBs (ET.es ks) && _) = _; rw [hall1, Bool.true_and]
      repeat' ((conv => whnf); first | refine ztT ?_ | (refine ztB ?_ ?_ <;> intro _ <;> try (exfalso; omega)) | (refine ztW ?_; clear H; intro _ _ H _) | fail)
      ((conv => whnf); refine Dr.quiet T.ok mixed (by kernel_rfl) (fun W hW => ?_))
      repeat' ((conv => whnf); first | refine ztQ ?_ | (refine ztB ?_ ?_ <;> intro _ <;> try (exfalso; omega)) | fail)
      (intro _ eT; replace H := H.ext eT; clear hW eT)
      repeat' (first | ((conv => whnf); first | refine ztT ?_ | (refine ztB ?_ ?_ <;> intro _ <;> try (exfalso; omega)) | (refine ztW ?_; clear H; intro _ _ H _) | fail) | (((conv => whnf); refine Cl.mk (isName_c nm _ (RdS.from H.e hK) hnm) ?_); rintro _ _ ⟨rfl, hx⟩; replace H := H.ext hx; clear hx) | (((conv => whnf); refine Cl.mk (isName_c cb _ (RdS.from H.e hK) hcb) ?_); rintro _ _ ⟨rfl, hx⟩; replace H := H.ext hx; clear hx) | (((conv => whnf); refine Cl.mk (opName_c o _ (RdS.from H.e hO)) ?_); rintro _ _ ⟨rfl, hx⟩; replace H := H.ext hx; clear hx))
      all_goals (refine ⟨b_eq (hE _ ?_).symm, H.e⟩; clear hE hall hall1 H hr hrs hK hO; simp_all [hdB, bs_nil] <;> (intros; omega))
end Go.Proofs.YtfnjodpehomgfaaGreatDoor
namespace Go.Proofs.YtfnjodpehomgfaaGreatDoor
open Go Go.Sh Go.Tx
attribute [local irreducible] Blk Ext RdS
theorem stBs_at {l : List SM} {i : Nat} {x : SM} (h : l[i]? = some x) : stBs (SM.es (l.drop i)) = (stB x.e && stBs (SM.es (l.drop (i + 1)))) := by
  obtain ⟨h1, h2⟩ := List.getElem?_eq_some_iff.1 h
  rw [List.drop_eq_getElem_cons h1, h2]; rfl
def IsStmtC (N : Nat) : Prop := ∀ (s : SM) (w : World), SM.ht s ≤ N → RdK w → RdS (fun b : Bs => [Value.string (bs b)]) 1 w (some ⟨4, 0, none⟩) opNames → SM.Rd w s →
  Cl Tryz.prog 71 #[s.v] w (fun v w' => v = .bool (stB s.e) ∧ Ext w w') (fun _ _ => False)
theorem isBody_of {N : Nat} (ih : IsStmtC N) (A : Option Addr) (c : Nat) (l : List SM) (w : World) (hN : SM.hts l ≤ N) (hK : RdK w) (hO : RdS (fun b : Bs => [Value.string (bs b)]) 1 w (some ⟨4, 0, none⟩) opNames) (hr : RdS SM.enc 10 w A l) (hrs : SM.Rds w l) (hlen : l.length ≤ 9000000) :
    Cl Tryz.prog 43 #[.slice A l.length c] w (fun v w' => v = .bool (stBs (SM.es l)) ∧ Ext w w') (fun _ _ => False) := by
  refine calls_ex (args := [.slice A l.length c]) T.ok Tryz.func43 rfl rfl rfl rfl ?_
  have H := Hp.begin nw w
  repeat' ((conv => whnf); first | refine ztT ?_ | (refine ztB ?_ ?_ <;> intro _ <;> try (exfalso; omega)) | (refine ztW ?_; clear H; intro _ _ H _) | fail)
  refine Lp.g0 T.ok (σ := Nat) (fun i => [(7, .int .i64 (i : Int)), (6, .int .i64 (l.length : Int)), (5, .slice A l.length c)])
    (fun i w' => i ≤ l.length ∧ stBs (SM.es l) = stBs (SM.es (l.drop i)) ∧ Hp nw w w' []) (fun i _ => l.length - i) 0 rfl ⟨rfl, rfl, rfl, trivial⟩ ⟨Nat.zero_le _, rfl, H⟩ ?_
  clear H
  rintro i w5 ⟨hi, hall, H⟩
  by_cases hlt : i < l.length
  · obtain ⟨x, hx⟩ : ∃ x, l[i]? = some x := ⟨_, List.getElem?_eq_getElem hlt⟩
    have hat := stBs_at hx
    have hr1 := RdS.from H.e hr
    have hm := List.mem_of_getElem? hx
    have hxh := SM.ht_mem hm
    have hxr := SM.rds_mem hm hrs
    obtain ⟨kd, nm, ⟨kx, ox, nx, mx, cx, Ax, cpx, lx⟩, B, cb, b, E, ce, f⟩ := x
    repeat' ((conv => whnf); first | refine ztT ?_ | (refine ztB ?_ ?_ <;> intro _ <;> try (exfalso; omega)) | (refine ztA ?_; clear H; intro _ _ H _) | fail)
    (((conv => whnf); refine Cl.mk (ih (.mk kd nm (.mk kx ox nx mx cx Ax cpx lx) B cb b E ce f) _ (by omega) (RdS.from H.e hK) (RdS.from H.e hO) (hxr.ext H.e)) ?_); rintro _ _ ⟨rfl, hx⟩; replace H := H.ext hx; clear hx)
    cases hb : stB (SM.e (.mk kd nm (.mk kx ox nx mx cx Ax cpx lx) B cb b E ce f)) with
    | true =>
      repeat' ((conv => whnf); first | refine ztT ?_ | (refine ztB ?_ ?_ <;> intro _ <;> try (exfalso; omega)) | (refine ztW ?_; clear H; intro _ _ H _) | fail)
      exact ⟨i + 1, ⟨at_int (m := ((i + 1 : Nat) : Int)) rfl (w64 (by simp) (by omega) (by omega)), rfl, rfl, trivial⟩, rfl, ⟨by omega, by rw [hall, hat, hb, Bool.true_and], H.sel [] rfl⟩, by omega⟩
    | false =>
      repeat' ((conv => whnf); first | refine ztT ?_ | (refine ztB ?_ ?_ <;> intro _ <;> try (exfalso; omega)) | (refine ztW ?_; clear H; intro _ _ H _) | fail)
      exact ⟨b_eq (by rw [hall, hat, hb]; rfl), H.e⟩
  · repeat' ((conv => whnf); first | refine ztT ?_ | (refine ztB ?_ ?_ <;> intro _ <;> try (exfalso; omega)) | (refine ztW ?_; clear H; intro _ _ H _) | fail)
    exact ⟨b_eq (by rw [hall, List.drop_of_length_le (by omega)]; rfl), H.e⟩
theorem SM.es_nil (l : List SM) : (SM.es l = []) ↔ (l.length = 0) := by cases l <;> simp [SM.es]
theorem len0 {α : Type} (l : List α) : ((l.length : Int) == 0) = decide (l = []) := by
  rw [Bool.eq_iff_iff]; simp
theorem isCall_e (kx ox nx : Int) (mx cx : Bs) (Ax : Option Addr) (cpx : Nat) (lx : List ET) : isCall (ET.e (.mk kx ox nx mx cx Ax cpx lx)) = decide (kx = 5) := rfl
theorem zero_e (kx ox nx : Int) (mx cx : Bs) (Ax : Option Addr) (cpx : Nat) (lx : List ET) (h : kx ≠ 0) : zeroB (ET.e (.mk kx ox nx mx cx Ax cpx lx)) = false := by
  simp [ET.e, zeroB, h]
set_option maxHeartbeats 4000000 in
theorem isStmt_c : ∀ N, IsStmtC N
  | 0, s, w, hN, _, _, _ => by cases s; simp [SM.ht] at hN
  | N + 1, .mk kd nm (.mk kx ox nx mx cx Ax cpx lx) B cb b E ce f, w, hN, hK, hO, hR => by
    obtain ⟨hre, hrb, hrbs, hrf, hrfs, hlb, hlf, hnm⟩ := hR
    simp only [SM.ht] at hN
    have ih := isStmt_c N
    refine calls_ex (args := [.agg #[.int .i64 kd, .string (bs nm), .int .i64 kx, .int .i64 ox, .int .i64 nx, .string (bs mx), .string (bs cx), .slice Ax lx.length cpx, .slice B b.length cb, .slice E f.length ce]]) T.ok Tryz.func71 rfl rfl rfl rfl ?_
    have H := Hp.begin nw w
    have hEb := SM.es_len b
    have hEf := SM.es_len f
    have hic := isCall_e kx ox nx mx cx Ax cpx lx
    have hz0 := zero_e kx ox nx mx cx Ax cpx lx
    repeat' (first | ((conv => whnf); first | refine ztT ?_ | (refine ztB ?_ ?_ <;> intro _ <;> try (exfalso; omega)) | (refine ztA ?_; clear H; intro _ _ H _) | fail) | (((conv => whnf); refine Cl.mk (isZero_c (.mk kx ox nx mx cx Ax cpx lx) _) ?_); rintro _ _ ⟨rfl, hx⟩; replace H := H.ext hx; clear hx) | (((conv => whnf); refine Cl.mk (isName_c nm _ (RdS.from H.e hK) hnm) ?_); rintro _ _ ⟨rfl, hx⟩; replace H := H.ext hx; clear hx) | (((conv => whnf); refine Cl.mk (isExpr_c _ (.mk kx ox nx mx cx Ax cpx lx) _ (Nat.le_refl _) (RdS.from H.e hK) (RdS.from H.e hO) (hre.ext H.e)) ?_); rintro _ _ ⟨rfl, hx⟩; replace H := H.ext hx; clear hx) | (((conv => whnf); refine Cl.mk (isBody_of ih B cb b _ (by omega) (RdS.from H.e hK) (RdS.from H.e hO) (RdS.from H.e hrb) (hrbs.ext H.e) hlb) ?_); rintro _ _ ⟨rfl, hx⟩; replace H := H.ext hx; clear hx) | (((conv => whnf); refine Cl.mk (isBody_of ih E ce f _ (by omega) (RdS.from H.e hK) (RdS.from H.e hO) (RdS.from H.e hrf) (hrfs.ext H.e) hlf) ?_); rintro _ _ ⟨rfl, hx⟩; replace H := H.ext hx; clear hx))
    all_goals (refine ⟨b_eq ?_, H.e⟩; clear H hre hrb hrbs hrf hrfs hK hO ih; (try simp_all [SM.e, stB, bs_nil, SM.es_nil, len0]) <;> (try (intros; omega)))
end Go.Proofs.YtfnjodpehomgfaaGreatDoor
namespace Go.Proofs.YtfnjodpehomgfaaGreatDoor
open Go Go.Sh Go.Tx
abbrev PT : Nat := 92
theorem u_pb : Tryz.prog.underlying 87 = some (.pointer 90) := by kernel_rfl
theorem u_up : Tryz.prog.underlying 104 = some .unsafePointer := by kernel_rfl
set_option maxHeartbeats 1000000 in
set_option maxRecDepth 100000 in
theorem copy_fresh (b : Nat) (w : World) (h0 : w.cell? ⟨b, 0, none⟩ = some (.pointer none)) (hsh : w.shape? b = some (PT, 2)) (hfz : w.frozen? ⟨b, 0, none⟩ = false) :
    Calls Tryz.prog 96 #[.pointer (some ⟨b, 0, none⟩)] w fun e w' => e = .returned (.tuple #[]) ∧ w' = w.setCell ⟨b, 0, none⟩ (.pointer (some ⟨b, 0, none⟩)) := by
  obtain ⟨j, hj, _, hjs, _⟩ := info_of T.ok.1 (t := 90) (i := T.t90) rfl
  go_enter Tryz.func96, Tryz.ntmps96
  go_wp2
  rw [Lib.run_to_unsafe w ⟨b, 0, none⟩ u_pb u_up hj (by rw [hjs]; decide) hsh (Nat.zero_lt_succ 1)]
  simp only [Result.andThen]
  rw [Oper.upon_value]
  go_wp2
  rw [run_callFunc_extern Tryz.func117 (by kernel_rfl) (by kernel_rfl) (by kernel_rfl) (e := Extern.AbiNoEscape.same) (by kernel_rfl)]
  rw [Lib.run_noEscape]
  simp only [Result.andThen]
  rw [Oper.upon_value]
  go_wp2
  rw [Lib.run_from_unsafe w ⟨b, 0, none⟩ u_up u_pb hj hsh (by kernel_rfl)]
  simp only [Result.andThen]
  rw [Oper.upon_value]
  go_wp2
  go_end0
  exact ⟨rfl, rfl⟩
set_option maxHeartbeats 1000000 in
set_option maxRecDepth 100000 in
theorem copy_used (b : Nat) (w : World) (h0 : w.cell? ⟨b, 0, none⟩ = some (.pointer (some ⟨b, 0, none⟩))) :
    Calls Tryz.prog 96 #[.pointer (some ⟨b, 0, none⟩)] w fun e w' => e = .returned (.tuple #[]) ∧ w' = w := by
  obtain ⟨j, hj, _, hjs, _⟩ := info_of T.ok.1 (t := 90) (i := T.t90) rfl
  go_enter Tryz.func96, Tryz.ntmps96
  go_wp2
  rw [Lib.run_neq_ptr_same w _ u_pb hj]
  go_wp2
  go_end0
  exact ⟨rfl, rfl⟩
abbrev byE (c : UInt8) : List Value := [.int .u8 (c.toNat : Int)]
theorem byE_flat (l : Bs) : l.flatMap byE = Lib.byteCells l := by
  induction l with
  | nil => rfl
  | cons c r ih => simp [Lib.byteCells] at ih ⊢; exact ih
theorem strCells_bs (l : Bs) : Lib.strCells (bs l) = l.flatMap byE := by rw [byE_flat]; simp [Lib.strCells, Lib.byteCells, bs]
abbrev ow (A : Option Addr) (c : Nat) (l : Bs) : Ck := ⟨fun k => obk A = some k, fun w => Own byE 1 5 w 0 A c l, true, false⟩
theorem ow_ok {A : Option Addr} {c : Nat} {l : Bs} {w : World} (h : Own byE 1 5 w 0 A c l) : (ow A c l).Ok w := by
  refine ⟨h, fun k hk => (h.obk_lt k hk).1, fun w' _ hb => ?_⟩
  obtain ⟨h1, h2, h3⟩ := h
  refine ⟨h1, h2, ?_⟩
  rcases h3 with h3 | ⟨g, cap, cur, hv, hg, hgb, h4⟩
  · exact .inl h3
  · simp only [Value.slice.injEq] at hv
    obtain ⟨rfl, h5, h6⟩ := hv
    exact .inr ⟨g, cap, cur, by rw [← h6], hg, (hb g rfl).trans hgb, h4⟩
theorem Hp.ow0 {S : Nat → Prop} {w0 w : World} {Γ : List Ck} (H : Hp S w0 w Γ) : Hp S w0 w (ow none 0 [] :: Γ) :=
  H.fr0 (Hp.one (Tch.refl _ _) (ow_ok Own.nil) (fun k hk => by have : none = some k := hk; simp at this)) (.inl rfl)
theorem run_aps {A : Option Addr} {c : Nat} {l s : Bs} {w : World} (h : Own byE 1 5 w 0 A c l) (hlen : l.length + s.length ≤ 140737488355328) :
    ∃ A' c' w', (Builtin.append_ #[88, 9] 88 #[.slice A l.length c, .string (bs s)]).run Tryz.prog w = .ok (.slice A' (l ++ s).length c') w' ∧ Hp (fun k => obk A = some k) w w' [ow A' c' (l ++ s)] := by
  have hsz := bs_size s
  obtain ⟨i, hi, hz, hs1, hby⟩ := info_of T.ok.1 (t := 5) (i := T.t5) rfl
  have ht := (T.ok.1.get (t := 88) (i := T.t88) rfl).1
  have hu := (T.ok.1.get (t := 9) (i := T.t9) rfl).1
  obtain ⟨v', w', hr, hown, hgr, _⟩ := Lib.run_append_own_string (P := Tryz.prog) w 0 88 9 88 5 i ht hu hi hz hs1 hby _ _ _ h.2 (bs s) (by unfold maxLen; omega) (by omega) (Nat.zero_le _)
  have hnew : ∃ A' c', v' = .slice A' (l ++ s).length c' ∧ (obk A' = obk A ∨ ∀ k, obk A' = some k → w.heap.size ≤ k) := by
    rcases h.2.2 with ⟨hv, h0⟩ | ⟨g, cap, cur, hv, _, hg, hnc, hcm, hcs, htk⟩
    · simp only [Value.slice.injEq] at hv
      obtain ⟨rfl, h1, rfl⟩ := hv
      have hl0 : l = [] := List.eq_nil_of_length_eq_zero h0
      subst hl0
      obtain ⟨v2, w2, hr2, hown2, _, _⟩ := Lib.run_append_own_string (P := Tryz.prog) w w.heap.size 88 9 88 5 i ht hu hi hz hs1 hby (.slice none 0 0) 0 [] ⟨rfl, .inl ⟨rfl, rfl⟩⟩ (bs s) (by unfold maxLen; omega) (by omega) (Nat.le_refl _)
      have hr := hr.symm.trans hr2
      simp only [Result.ok.injEq] at hr
      obtain ⟨rfl, rfl⟩ := hr
      rcases hown2.2 with ⟨rfl, h3⟩ | ⟨g, cap, cur, rfl, hg, _⟩
      · exact ⟨none, 0, by simp; omega, .inl rfl⟩
      · exact ⟨some ⟨g, 0, none⟩, cap, by simp [hsz], .inr fun k hk => by simp [obk] at hk; omega⟩
    · simp only [Value.slice.injEq] at hv
      obtain ⟨rfl, _, rfl⟩ := hv
      by_cases hroom : l.length + s.length ≤ c
      · have hr2 := Lib.run_append_room_string (P := Tryz.prog) w 88 9 88 5 i ht hu hi hs1 g l.length c cur hg (bs s) (by omega) (by omega)
        have hr := hr.symm.trans hr2
        simp only [Result.ok.injEq] at hr
        obtain ⟨rfl, rfl⟩ := hr
        exact ⟨some ⟨g, 0, none⟩, c, by simp [hsz], .inl rfl⟩
      · have hb1 : i.bytes = 1 := hby
        have hr2 := Lib.run_append_grow_string (P := Tryz.prog) w 88 9 88 5 i _ ht hu hi hz ⟨g, 0, none⟩ l.length c (l.flatMap byE) (by rw [hs1]; exact h.2.1) (h.2.cells (g := g) rfl) (bs s) (by omega) (by omega) (by rw [hb1]; exact Go.growslice_fits (by omega) (by omega))
        have hr := hr.symm.trans hr2
        simp only [Result.ok.injEq] at hr
        obtain ⟨rfl, rfl⟩ := hr
        exact ⟨some ⟨w.heap.size, 0, none⟩, _, by simp [hsz]; rfl, .inr fun k hk => by simp [obk] at hk; omega⟩
  obtain ⟨A', c', rfl, hA'⟩ := hnew
  refine ⟨A', c', w', hr, Hp.one ?_ (ow_ok ⟨fun x _ => rfl, ?_⟩) fun k hk => ?_⟩
  · rw [obk_eq] at hgr
    exact ⟨hgr.os, hgr.tape, hgr.output, hgr.size, fun k hk hS => hgr.block k hk (fun e => hS e.symm)⟩
  · rw [hsz, strCells_bs, ← List.flatMap_append] at hown
    rw [← List.length_append] at hown
    exact hown
  · have hk : obk A' = some k := hk
    rcases hA' with h1 | h1
    · exact .inl (by rw [← h1]; exact hk)
    · exact .inr (h1 k hk)
set_option maxHeartbeats 1000000 in
set_option maxRecDepth 100000 in
theorem string_x {b g cap : Nat} {x : Value} {l : Bs} {cur : Array Value} {w : World} (hl : l ≠ []) (hb : w.heap[b]? = some (.cells #[x, .slice (some ⟨g, 0, none⟩) l.length cap] PT (0, 0))) (hg : w.heap[g]? = some (.cells cur 5 (0, 0))) (hnc : l.length ≤ cap) (hcm : cap ≤ maxLen) (hcs : cur.size = cap)
    (hcell : ∀ j y, l[j]? = some y → w.cell? ((⟨g, 0, none⟩ : Addr).add j) = some (.int .u8 y.toNat)) :
    Calls Tryz.prog 47 #[.pointer (some ⟨b, 0, none⟩)] w fun e w' => e = .returned (.string (bs l)) ∧ w' = w.drew.freeze ⟨g, 0, none⟩ l.length := by
  have hl0 : l.length ≠ 0 := by simpa using hl
  have c1 : w.drew.cell? ⟨b, 1, none⟩ = some (.slice (some ⟨g, 0, none⟩) l.length cap) := by
    have : w.drew.heap[b]? = some (.cells #[x, .slice (some ⟨g, 0, none⟩) l.length cap] PT (0, 0)) := hb
    rw [Lib.cell_of_heap this]; rfl
  have hSD : (Builtin.unsafeSliceData_ #[88] 131 #[.slice (some ⟨g, 0, none⟩) l.length cap]).run Tryz.prog w.drew = .ok (.pointer (some ⟨g, 0, none⟩)) w.drew :=
    Lib.run_unsafeSliceData_row _ _ _ _ _ _ (by omega)
  have hUS : (Builtin.unsafeString_ #[131, 3] 9 #[.pointer (some ⟨g, 0, none⟩), .int .i64 l.length]).run Tryz.prog w.drew = .ok (.string ⟨l.toArray⟩) (w.drew.freeze ⟨g, 0, none⟩ l.length) :=
    Lib.run_unsafeString_row w.drew 131 3 9 5 (by kernel_rfl) (by kernel_rfl) g cur.size (by have hg' : w.drew.heap[g]? = some (.cells cur 5 (0, 0)) := hg; simp [World.shape?, hg']) l hl (by omega) (by unfold maxLen at hcm; omega) hcell
  have hmx := mixed
  go_enter Tryz.func47, Tryz.ntmps47
  go_wp2
  go_region_o
  all_goals (go_wp2; go_ret; exact ⟨rfl, rfl⟩)
attribute [local irreducible] Blk Ext RdS
abbrev bp (b : Nat) (x : Value) (A : Option Addr) (c n : Nat) : Ck := bk b PT [x, .slice A n c]
def PtrOk (b : Nat) (x : Value) : Prop := x = .pointer none ∨ x = .pointer (some ⟨b, 0, none⟩)
theorem copy_c (b : Nat) (x s : Value) (w : World) (hx : PtrOk b x) (hb : Blk w b PT [x, s]) :
    Cl Tryz.prog 96 #[.pointer (some ⟨b, 0, none⟩)] w (fun v w' => Hp (· = b) w w' [bk b PT [.pointer (some ⟨b, 0, none⟩), s]]) (fun _ _ => False) := by
  have H := Hp.start (S := (· = b)) (bk_ok hb) (fun k hk => hk)
  rcases hx with rfl | rfl
  · refine ⟨Calls.mono (copy_fresh b w (hb.cell 0) ?_ (hb.frozen _ rfl)) ?_⟩
    · unfold Blk at hb
      simp [World.shape?, hb]
    rintro e w' ⟨rfl, rfl⟩
    have hst := St.h (vs := [Value.pointer (some ⟨b, 0, none⟩)]) (o := 0) (k := fun w' => Hp (· = b) w w' [bk b PT [.pointer (some ⟨b, 0, none⟩), s]]) H (fun w' H => H)
    exact hst.out
  · refine ⟨Calls.mono (copy_used b w (hb.cell 0)) ?_⟩
    rintro e w' ⟨rfl, rfl⟩
    exact H
theorem Sm.aps {S : Nat → Prop} {w0 w : World} {Γ L R : List Ck} {A : Option Addr} {c : Nat} {l s : Bs} {k : Value → World → Prop} {Y : List PanicEntry → World → Prop} (H : Hp S w0 w Γ) (u : Sp Γ L (ow A c l) R) (hlen : l.length + s.length ≤ 140737488355328)
    (hk : ∀ A' c' w', Hp S w0 w' (L ++ ow A' c' (l ++ s) :: R) → k (.slice A' (l ++ s).length c') w') : Sm Tryz.prog (Builtin.append_ #[88, 9] 88 #[.slice A l.length c, .string (bs s)]) w k Y := by
  obtain ⟨A', c', w', hr, H'⟩ := run_aps (H.mem (c := ow A c l) (by rw [u.eq]; simp)) hlen
  exact ⟨by rw [hr]; exact hk A' c' w' (H.putS u H' rfl (.inl rfl))⟩
set_option maxHeartbeats 1000000 in
theorem write_c (b : Nat) (x : Value) (A : Option Addr) (c : Nat) (l s : Bs) (w : World) (hx : PtrOk b x) (h : Hp (fun k => k = b ∨ obk A = some k) w w [bp b x A c l.length, ow A c l]) (hlen : l.length + s.length ≤ 140737488355328) :
    Cl Tryz.prog 72 #[.pointer (some ⟨b, 0, none⟩), .string (bs s)] w (fun v w' => ∃ A' c', Hp (fun k => k = b ∨ obk A = some k) w w' [bp b (.pointer (some ⟨b, 0, none⟩)) A' c' (l ++ s).length, ow A' c' (l ++ s)]) (fun _ _ => False) := by
  refine calls_ex (args := [.pointer (some ⟨b, 0, none⟩), .string (bs s)]) T.ok Tryz.func72 rfl rfl rfl rfl ?_
  have H := h
  have hsz := bs_size s
  repeat' ((conv => whnf); first | refine ztT ?_ | (refine ztB ?_ ?_ <;> intro _ <;> try (exfalso; omega)) | (refine ztW ?_; clear H; intro _ _ H _) | fail)
  ((conv => whnf); refine Cl.mk (copy_c b x _ _ hx (H.blk 0 rfl)) ?_)
  rintro _ w2 H'
  replace H := H.updb H'
  clear H'
  repeat' ((conv => whnf); first | refine ztT ?_ | (refine ztB ?_ ?_ <;> intro _ <;> try (exfalso; omega)) | (refine ztW ?_; clear H; intro _ _ H _) | fail)
  refine Sm.aps H (.tail .head) hlen (fun A' c' w3 H => ?_)
  repeat' ((conv => whnf); first | refine ztT ?_ | (refine ztB ?_ ?_ <;> intro _ <;> try (exfalso; omega)) | (refine ztW ?_; clear H; intro _ _ H _) | fail)
  exact ⟨A', c', H⟩
theorem string_c (b : Nat) (x : Value) (A : Option Addr) (c : Nat) (l : Bs) (w : World) (hl : l ≠ []) (hb : Blk w b PT [x, .slice A l.length c]) (ho : Own byE 1 5 w 0 A c l) :
    Cl Tryz.prog 47 #[.pointer (some ⟨b, 0, none⟩)] w (fun v w' => v = .string (bs l) ∧ Hp (fun k => k = b ∨ obk A = some k) w w' []) (fun _ _ => False) := by
  have hl0 : l.length ≠ 0 := by simpa using hl
  rcases ho.2.2 with ⟨hv, h0⟩ | ⟨g, cap, cur, hv, _, hg, hnc, hcm, hcs, htk⟩
  · exact absurd h0 hl0
  simp only [Value.slice.injEq] at hv
  obtain ⟨rfl, _, rfl⟩ := hv
  unfold Blk at hb
  refine ⟨Calls.mono (string_x hl hb hg hnc hcm (by simpa using hcs) fun j y hy => ?_) ?_⟩
  · refine ho.2.cells (g := g) rfl j _ ?_
    rw [byE_flat, Lib.byteCells, List.getElem?_map, hy]; rfl
  rintro e w' ⟨rfl, rfl⟩
  refine ⟨rfl, ⟨?_, by simp, List.Pairwise.nil, by simp⟩⟩
  have hd : Tch (fun k => k = b ∨ obk (some ⟨g, 0, none⟩) = some k) w w.drew := ⟨rfl, rfl, rfl, Nat.le_refl _, fun _ _ _ => rfl⟩
  unfold World.freeze
  split
  · exact hd
  · refine ⟨rfl, rfl, rfl, by simp, fun k hk hS => ?_⟩
    have hkg : g ≠ k := fun e => hS (.inr (by subst e; rfl))
    show (Array.modify _ _ _)[k]? = _
    rw [Array.getElem?_modify, if_neg hkg]
    rfl
end Go.Proofs.YtfnjodpehomgfaaGreatDoor
namespace Go.Proofs.YtfnjodpehomgfaaGreatDoor
open Go Go.Shelf
def str_ren : Go.Shelf.Ren := ⟨fun | 99 => 99 | 105 => 74 | 156 => 45 | 165 => 73 | 166 => 72 | 169 => 47 | 170 => 100 | 206 => 121 | 212 => 98 | 240 => 96 | 241 => 97 | 263 => 119 | 264 => 120 | 276 => 117 | 277 => 118 | n => n, fun | 0 => 0 | 3 => 3 | 4 => 4 | 5 => 5 | 9 => 9 | 20 => 20 | 31 => 31 | 37 => 88 | 46 => 154 | 51 => 167 | 53 => 170 | 70 => 87 | 72 => 90 | 75 => 58 | 76 => 126 | 80 => 96 | 109 => 155 | 127 => 131 | 146 => 168 | 148 => 171 | 164 => 104 | n => n, fun | n => n⟩
theorem rep_lays : Go.Proofs.Lays.n105 Tryz.prog str_ren := {
  mixed := by kernel_rfl,
  f99 := Tryz.func99.trans (congrArg some (by kernel_rfl)),
  f105 := Tryz.func74.trans (congrArg some (by kernel_rfl)),
  f165 := Tryz.func73.trans (congrArg some (by kernel_rfl)),
  f166 := Tryz.func72.trans (congrArg some (by kernel_rfl)),
  f169 := Tryz.func47.trans (congrArg some (by kernel_rfl)),
  f170 := Tryz.func100.trans (congrArg some (by kernel_rfl)),
  f206 := Tryz.func121.trans (congrArg some (by kernel_rfl)),
  f212 := Tryz.func98.trans (congrArg some (by kernel_rfl)),
  f240 := Tryz.func96.trans (congrArg some (by kernel_rfl)),
  f241 := Tryz.func97.trans (congrArg some (by kernel_rfl)),
  f263 := Tryz.func119.trans (congrArg some (by kernel_rfl)),
  f264 := Tryz.func120.trans (congrArg some (by kernel_rfl)),
  f276 := Tryz.func117.trans (congrArg some (by kernel_rfl)),
  f277 := Tryz.func118.trans (congrArg some (by kernel_rfl)),
  t0 := Tryz.underlying0,
  a0 := Tryz.isAgg0,
  z0 := Tryz.sizeOf0,
  v0 := Tryz.zeroValue0,
  t3 := Tryz.underlying3,
  a3 := Tryz.isAgg3,
  z3 := Tryz.sizeOf3,
  v3 := Tryz.zeroValue3,
  t4 := Tryz.underlying4,
  a4 := Tryz.isAgg4,
  z4 := Tryz.sizeOf4,
  v4 := Tryz.zeroValue4,
  t5 := Tryz.underlying5,
  a5 := Tryz.isAgg5,
  z5 := Tryz.sizeOf5,
  v5 := Tryz.zeroValue5,
  t9 := Tryz.underlying9,
  a9 := Tryz.isAgg9,
  z9 := Tryz.sizeOf9,
  v9 := Tryz.zeroValue9,
  t20 := Tryz.underlying20,
  a20 := Tryz.isAgg20,
  z20 := Tryz.sizeOf20,
  v20 := Tryz.zeroValue20,
  t37 := Tryz.underlying88,
  a37 := Tryz.isAgg88,
  z37 := Tryz.sizeOf88,
  v37 := Tryz.zeroValue88,
  t46 := Tryz.underlying154,
  a46 := Tryz.isAgg154,
  z46 := Tryz.sizeOf154,
  v46 := Tryz.zeroValue154,
  t51 := Tryz.underlying167,
  a51 := Tryz.isAgg167,
  z51 := Tryz.sizeOf167,
  v51 := Tryz.zeroValue167,
  t53 := Tryz.underlying170,
  a53 := Tryz.isAgg170,
  z53 := Tryz.sizeOf170,
  v53 := Tryz.zeroValue170,
  t70 := Tryz.underlying87,
  a70 := Tryz.isAgg87,
  z70 := Tryz.sizeOf87,
  v70 := Tryz.zeroValue87,
  t72 := Tryz.underlying90,
  a72 := Tryz.isAgg90,
  z72 := Tryz.sizeOf90,
  v72 := Tryz.zeroValue90,
  t75 := Tryz.underlying58,
  a75 := Tryz.isAgg58,
  z75 := Tryz.sizeOf58,
  v75 := Tryz.zeroValue58,
  t76 := Tryz.underlying126,
  a76 := Tryz.isAgg126,
  z76 := Tryz.sizeOf126,
  v76 := Tryz.zeroValue126,
  t109 := Tryz.underlying155,
  a109 := Tryz.isAgg155,
  z109 := Tryz.sizeOf155,
  v109 := Tryz.zeroValue155,
  t127 := Tryz.underlying131,
  a127 := Tryz.isAgg131,
  z127 := Tryz.sizeOf131,
  v127 := Tryz.zeroValue131,
  t146 := Tryz.underlying168,
  a146 := Tryz.isAgg168,
  z146 := Tryz.sizeOf168,
  v146 := Tryz.zeroValue168,
  t148 := Tryz.underlying171,
  a148 := Tryz.isAgg171,
  z148 := Tryz.sizeOf171,
  v148 := Tryz.zeroValue171,
  t164 := Tryz.underlying104,
  a164 := Tryz.isAgg104,
  z164 := Tryz.sizeOf104,
  v164 := Tryz.zeroValue104 }
theorem join_lays : Go.Proofs.Lays.n156 Tryz.prog str_ren := {
  mixed := by kernel_rfl,
  f156 := Tryz.func45.trans (congrArg some (by kernel_rfl)),
  f165 := Tryz.func73.trans (congrArg some (by kernel_rfl)),
  f166 := Tryz.func72.trans (congrArg some (by kernel_rfl)),
  f169 := Tryz.func47.trans (congrArg some (by kernel_rfl)),
  f240 := Tryz.func96.trans (congrArg some (by kernel_rfl)),
  f241 := Tryz.func97.trans (congrArg some (by kernel_rfl)),
  f276 := Tryz.func117.trans (congrArg some (by kernel_rfl)),
  f277 := Tryz.func118.trans (congrArg some (by kernel_rfl)),
  t0 := Tryz.underlying0,
  a0 := Tryz.isAgg0,
  z0 := Tryz.sizeOf0,
  v0 := Tryz.zeroValue0,
  t3 := Tryz.underlying3,
  a3 := Tryz.isAgg3,
  z3 := Tryz.sizeOf3,
  v3 := Tryz.zeroValue3,
  t4 := Tryz.underlying4,
  a4 := Tryz.isAgg4,
  z4 := Tryz.sizeOf4,
  v4 := Tryz.zeroValue4,
  t9 := Tryz.underlying9,
  a9 := Tryz.isAgg9,
  z9 := Tryz.sizeOf9,
  v9 := Tryz.zeroValue9,
  t20 := Tryz.underlying20,
  a20 := Tryz.isAgg20,
  z20 := Tryz.sizeOf20,
  v20 := Tryz.zeroValue20,
  t31 := Tryz.underlying31,
  a31 := Tryz.isAgg31,
  z31 := Tryz.sizeOf31,
  v31 := Tryz.zeroValue31,
  t37 := Tryz.underlying88,
  a37 := Tryz.isAgg88,
  z37 := Tryz.sizeOf88,
  v37 := Tryz.zeroValue88,
  t70 := Tryz.underlying87,
  a70 := Tryz.isAgg87,
  z70 := Tryz.sizeOf87,
  v70 := Tryz.zeroValue87,
  t72 := Tryz.underlying90,
  a72 := Tryz.isAgg90,
  z72 := Tryz.sizeOf90,
  v72 := Tryz.zeroValue90,
  t75 := Tryz.underlying58,
  a75 := Tryz.isAgg58,
  z75 := Tryz.sizeOf58,
  v75 := Tryz.zeroValue58,
  t76 := Tryz.underlying126,
  a76 := Tryz.isAgg126,
  z76 := Tryz.sizeOf126,
  v76 := Tryz.zeroValue126,
  t127 := Tryz.underlying131,
  a127 := Tryz.isAgg131,
  z127 := Tryz.sizeOf131,
  v127 := Tryz.zeroValue131,
  t164 := Tryz.underlying104,
  a164 := Tryz.isAgg104,
  z164 := Tryz.sizeOf104,
  v164 := Tryz.zeroValue104 }
theorem str_ren_x : Go.Proofs.Builder.Extra Tryz.prog str_ren := {
  sizeBuilder := by kernel_rfl,
  liesBuilder := by kernel_rfl,
  t5 := Tryz.underlying5,
  a5 := Tryz.isAgg5,
  z5 := Tryz.sizeOf5,
  v5 := Tryz.zeroValue5,
  infoByte := by kernel_rfl,
  cellsByte := by kernel_rfl,
  sizeByte := by kernel_rfl,
  neB5 := by decide }
end Go.Proofs.YtfnjodpehomgfaaGreatDoor
namespace Go.Proofs.YtfnjodpehomgfaaGreatDoor
open Go Go.Sh Go.Tx
attribute [local irreducible] Blk Ext RdS
theorem find_c (s : Bs) (w : World) (hT : Tb w) : Cl Tryz.prog 146 #[.string (bs s)] w (fun v w' => v = .int .i64 (findOp s) ∧ Ext w w') (fun _ _ => False) := by
  refine calls_ex (args := [.string (bs s)]) T.ok Tryz.func146 rfl rfl rfl rfl ?_
  have H := Hp.begin nw w
  repeat' ((conv => whnf); first | refine ztS ?_ | (refine ztB ?_ ?_ <;> intro _ <;> try (exfalso; omega)) | (refine ztA ?_; clear H; intro _ _ H _) | fail)
  (conv => whnf)
  refine Ld.all hT.nm ?_
  repeat' ((conv => whnf); first | refine ztS ?_ | (refine ztB ?_ ?_ <;> intro _ <;> try (exfalso; omega)) | (refine ztA ?_; clear H; intro _ _ H _) | fail)
  refine Lp.g0 T.ok (σ := Nat) (fun i => [(6, .int .i64 (i : Int)), (5, .agg (opNames.map fun b => Value.string (bs b)).toArray), (0, .string (bs s))])
    (fun i w' => i ≤ 16 ∧ findAux s (opNames.drop i) i = findOp s ∧ Hp nw w w' []) (fun i _ => 16 - i) 0 rfl ⟨rfl, rfl, rfl, trivial⟩ ⟨Nat.zero_le _, rfl, H⟩ ?_
  clear H
  rintro i w5 ⟨hi, hc, H⟩
  by_cases hlt : i < 16
  · obtain ⟨x, hx⟩ : ∃ x, opNames[i]? = some x := ⟨_, List.getElem?_eq_getElem (show i < opNames.length from hlt)⟩
    obtain ⟨hx1, hx2⟩ := List.getElem?_eq_some_iff.1 hx
    rw [List.drop_eq_getElem_cons hx1, hx2] at hc
    simp only [findAux] at hc
    repeat' ((conv => whnf); first | refine ztS ?_ | (refine ztB ?_ ?_ <;> intro _ <;> try (exfalso; omega)) | (refine ztA ?_; clear H; intro _ _ H _) | fail)
    refine Sm.arrix T.ok (v := .string (bs x)) (by simp [hx]) hlt ?_
    repeat' ((conv => whnf); first | refine ztS ?_ | (refine ztB ?_ ?_ <;> intro _ <;> try (exfalso; omega)) | (refine ztA ?_; clear H; intro _ _ H _) | fail)
    · have hb : (bs x == bs s) = true := by assumption
      rw [bs_eq] at hb
      rw [if_pos (of_decide_eq_true hb)] at hc
      exact ⟨by rw [← hc]; rfl, H.e⟩
    · have hb : (bs x == bs s) = false := by assumption
      rw [bs_eq] at hb
      rw [if_neg (of_decide_eq_false hb)] at hc
      exact ⟨i + 1, ⟨at_int (m := ((i + 1 : Nat) : Int)) rfl (w64 (by simp) (by omega) (by omega)), rfl, rfl, trivial⟩, rfl, ⟨by omega, hc, H⟩, by omega⟩
  · have hi : i = 16 := by omega
    subst hi
    repeat' ((conv => whnf); first | refine ztS ?_ | (refine ztB ?_ ?_ <;> intro _ <;> try (exfalso; omega)) | (refine ztA ?_; clear H; intro _ _ H _) | fail)
    exact ⟨by rw [← hc]; rfl, H.e⟩
theorem stands_c (level : Nat) (src : Bs) (pr : Nat) (ts : List Tk) (w : World) (hT : Tb w) (hlv : level < 8) (h : Rdr src pr ts w) :
    Cl Tryz.prog 131 #[.pointer (some ⟨pr, 0, none⟩), .int .i64 (level : Int)] w (fun v w' => v = .bool (standsB level (curK ts)) ∧ Ext w w') (fun _ _ => False) := by
  obtain ⟨nx, t, r, rfl, hnx, hr, hb⟩ := h
  obtain ⟨As, hAl, hR, hE⟩ := hT.lv
  obtain ⟨⟨A, ca⟩, hA⟩ : ∃ x, As[level]? = some x := ⟨_, List.getElem?_eq_getElem (by omega)⟩
  obtain ⟨lv, hl⟩ : ∃ x, levels[level]? = some x := ⟨_, List.getElem?_eq_getElem (show level < levels.length from hlv)⟩
  have hz : (As.zip levels)[level]? = some ((A, ca), lv) := by rw [List.getElem?_zip_eq_some]; exact ⟨hA, hl⟩
  have hm : ((As.zip levels).map fun x => (x.1.1, x.2.length, x.1.2))[level]? = some (A, lv.length, ca) := by rw [List.getElem?_map, hz]; rfl
  have hzl : ((As.zip levels).map fun x => (x.1.1, x.2.length, x.1.2)).length = 8 := by
    rw [List.length_map, List.length_zip, hAl]; rfl
  have hll : level < ((As.zip levels).map fun x => (x.1.1, x.2.length, x.1.2)).length := by omega
  have hE1 := hE _ (List.mem_of_getElem? hz)
  simp only at hE1
  have hst : standsB level (curK (t :: r)) = lv.contains t.kind := by unfold standsB; rw [hl]; rfl
  rw [hst]
  have hlv4 : lv.length ≤ 4 := by
    have : ∀ l ∈ levels, l.length ≤ 4 := by decide
    exact this lv (List.mem_of_getElem? hl)
  refine calls_ex (args := [.pointer (some ⟨pr, 0, none⟩), .int .i64 (level : Int)]) T.ok Tryz.func131 rfl rfl rfl rfl ?_
  have H := Hp.start (S := (· = pr)) (bk_ok hb) (fun k hk => hk)
  have H0 := (Hp.begin nw w).e
  repeat' ((conv => whnf); first | refine ztT ?_ | (refine ztB ?_ ?_ <;> intro _ <;> try (exfalso; omega)) | (refine ztA ?_; clear H; intro _ _ H _) | fail)
  refine Lp.g0 T.ok (σ := Nat) (fun i => [(11, .int .i64 (i : Int)), (10, .int .i64 (lv.length : Int)), (9, .slice A lv.length ca), (0, .pointer (some ⟨pr, 0, none⟩))])
    (fun i w' => i ≤ lv.length ∧ (lv.take i).contains t.kind = false ∧ w' = w) (fun i _ => lv.length - i) 0 rfl ⟨rfl, rfl, rfl, rfl, trivial⟩ ⟨Nat.zero_le _, rfl, rfl⟩ ?_
  rintro i _ ⟨hi, hc, rfl⟩
  by_cases hlt : i < lv.length
  · obtain ⟨x, hx⟩ : ∃ x, lv[i]? = some x := ⟨_, List.getElem?_eq_getElem hlt⟩
    have hst := contains_step (s := t.kind) hx
    repeat' ((conv => whnf); first | refine ztT ?_ | (refine ztB ?_ ?_ <;> intro _ <;> try (exfalso; omega)) | (refine ztA ?_; clear H; intro _ _ H _) | fail)
    · have hb : (bs t.kind == bs x) = true := by assumption
      rw [bs_eq] at hb
      refine ⟨b_eq ?_, H0⟩
      have hm : t.kind ∈ lv := by rw [of_decide_eq_true hb]; exact List.mem_of_getElem? hx
      exact (List.contains_iff_mem.2 hm).symm
    · have hb : (bs t.kind == bs x) = false := by assumption
      rw [bs_eq] at hb
      refine ⟨i + 1, ⟨at_int (m := ((i + 1 : Nat) : Int)) rfl (w64 (by simp) (by omega) (by omega)), rfl, rfl, rfl, trivial⟩, rfl, ⟨by omega, ?_, rfl⟩, by omega⟩
      rw [hst, hc, Bool.false_or]
      exact beq_eq_false_iff_ne.2 fun e => of_decide_eq_false hb e.symm
  · rw [List.take_of_length_le (by omega)] at hc
    repeat' ((conv => whnf); first | refine ztT ?_ | (refine ztB ?_ ?_ <;> intro _ <;> try (exfalso; omega)) | (refine ztA ?_; clear H; intro _ _ H _) | fail)
    exact ⟨b_eq hc.symm, H0⟩
theorem et_v {v : Value} {kd o n : Int} {nm cb : Bs} {A : Option Addr} {c : Nat} {l : List ET} (h : v = .agg #[.int .i64 kd, .int .i64 o, .int .i64 n, .string (bs nm), .string (bs cb), .slice A l.length c]) : v = ET.v (.mk kd o n nm cb A c l) := h
theorem join_c (s : Bs) (x y : ET) (w : World) (hT : Tb w) :
    Cl Tryz.prog 132 #[.string (bs s), x.v, y.v] w (fun v w' => ∃ kd o A c, v = ET.v (.mk kd o 0 [] [] A c [x, y]) ∧ joinP s x.e y.e = ET.e (.mk kd o 0 [] [] A c [x, y]) ∧ Hp nw w w' [qu ET.enc 6 74 A c [x, y]]) (fun _ _ => False) := by
  obtain ⟨k1, o1, n1, a1, b1, A1, c1, l1⟩ := x
  obtain ⟨k2, o2, n2, a2, b2, A2, c2, l2⟩ := y
  generalize hx : ET.mk k1 o1 n1 a1 b1 A1 c1 l1 = x
  generalize hy : ET.mk k2 o2 n2 a2 b2 A2 c2 l2 = y
  have hvx : x.v = .agg #[.int .i64 k1, .int .i64 o1, .int .i64 n1, .string (bs a1), .string (bs b1), .slice A1 l1.length c1] := by rw [← hx]; rfl
  have hvy : y.v = .agg #[.int .i64 k2, .int .i64 o2, .int .i64 n2, .string (bs a2), .string (bs b2), .slice A2 l2.length c2] := by rw [← hy]; rfl
  rw [hvx, hvy]
  refine calls_ex (args := [.string (bs s), .agg #[.int .i64 k1, .int .i64 o1, .int .i64 n1, .string (bs a1), .string (bs b1), .slice A1 l1.length c1], .agg #[.int .i64 k2, .int .i64 o2, .int .i64 n2, .string (bs a2), .string (bs b2), .slice A2 l2.length c2]]) T.ok Tryz.func132 rfl rfl rfl rfl ?_
  have H := Hp.begin nw w
  refine Sq.mk ?_
  ((conv => whnf); refine Al.hp H ?_; clear H; intro p4 _ H _)
  ((conv => whnf); refine Al.hp H ?_; clear H; intro p5 _ H _)
  repeat' ((conv => whnf); first | refine ztS ?_ | (refine ztB ?_ ?_ <;> intro _ <;> try (exfalso; omega)) | (refine ztW ?_; clear H; intro _ _ H _) | fail)
  ((conv => whnf); refine Al.hp H ?_; clear H; intro p6 _ H _)
  repeat' ((conv => whnf); first | refine ztS ?_ | (refine ztB ?_ ?_ <;> intro _ <;> try (exfalso; omega)) | (refine ztA ?_; clear H; intro _ _ H _) | fail)
  (conv => whnf)
  refine Sm.lith (cs := [.int .i64 k1, .int .i64 o1, .int .i64 n1, .string (bs a1), .string (bs b1), .slice A1 l1.length c1, .int .i64 k2, .int .i64 o2, .int .i64 n2, .string (bs a2), .string (bs b2), .slice A2 l2.length c2]) H T.ok (fun p1 w1 H _ => ?_)
  have hfix : ∀ w', Hp nw w w' [bk p1 74 [.int .i64 k1, .int .i64 o1, .int .i64 n1, .string (bs a1), .string (bs b1), .slice A1 l1.length c1, .int .i64 k2, .int .i64 o2, .int .i64 n2, .string (bs a2), .string (bs b2), .slice A2 l2.length c2]] → Hp nw w w' [qu ET.enc 6 74 (some ⟨p1, 0, none⟩) 2 [x, y]] := fun w' H => by
    have H1 : Hp nw w w' [bk p1 74 ([x, y].flatMap ET.enc)] := by rw [← hx, ← hy]; exact H
    exact Hp.bq (sz := 6) H1 (fun z _ => ET.enc_len z)
  by_cases h1 : s = s_andd
  · repeat' ((conv => whnf); first | refine ztT ?_ | (refine ztB ?_ ?_ <;> intro _ <;> try (exfalso; omega)) | (refine ztA ?_; clear H; intro _ _ H _) | fail)
    refine ⟨8, 0, some ⟨p1, 0, none⟩, 2, et_v rfl, ?_, hfix _ (H.sel [0] rfl)⟩
    unfold joinP; rw [if_pos h1]; rfl
  · by_cases h2 : s = s_orr
    · repeat' ((conv => whnf); first | refine ztT ?_ | (refine ztB ?_ ?_ <;> intro _ <;> try (exfalso; omega)) | (refine ztA ?_; clear H; intro _ _ H _) | fail)
      refine ⟨9, 0, some ⟨p1, 0, none⟩, 2, et_v rfl, ?_, hfix _ (H.sel [0] rfl)⟩
      unfold joinP; rw [if_neg h1, if_pos h2]; rfl
    · repeat' (first | ((conv => whnf); first | refine ztT ?_ | (refine ztB ?_ ?_ <;> intro _ <;> try (exfalso; omega)) | (refine ztA ?_; clear H; intro _ _ H _) | fail) | (((conv => whnf); refine Cl.mk (find_c s _ (hT.ext H.e)) ?_); rintro _ _ ⟨rfl, hx⟩; replace H := H.ext hx; clear hx))
      refine ⟨4, findOp s, some ⟨p1, 0, none⟩, 2, et_v rfl, ?_, hfix _ (H.sel [0] rfl)⟩
      unfold joinP; rw [if_neg h1, if_neg h2]; rfl
end Go.Proofs.YtfnjodpehomgfaaGreatDoor
namespace Go.Proofs.YtfnjodpehomgfaaGreatDoor
open Go Go.Sh Go.Tx
attribute [local irreducible] Blk Ext RdS
def OkE (src : Bs) (pr : Nat) (R : Res Ex) (w : World) (v : Value) (w' : World) : Prop := ∃ t ts', R = .ok (ET.e t) ts' ∧ v = t.v ∧ Hp (· = pr) w w' [trs [t], rdr src pr ts']
def OkL (src : Bs) (pr : Nat) (R : Res (List Ex)) (w : World) (v : Value) (w' : World) : Prop := ∃ A c l ts', R = .ok (ET.es l) ts' ∧ v = .slice A l.length c ∧ l.length ≤ 2000000 ∧ Hp (· = pr) w w' [qu ET.enc 6 74 A c l, trs l, rdr src pr ts']
def OkB (src : Bs) (pr : Nat) (R : Res (List St)) (w : World) (v : Value) (w' : World) : Prop := ∃ B c l ts', R = .ok (SM.es l) ts' ∧ v = .slice B l.length c ∧ Hp (· = pr) w w' [stl B c l, rdr src pr ts']
def OkS (src : Bs) (pr : Nat) (R : Res St) (w : World) (v : Value) (w' : World) : Prop := ∃ s ts', R = .ok (SM.e s) ts' ∧ v = s.v ∧ Hp (· = pr) w w' [sts [s], rdr src pr ts']
structure Txt (src : Bs) (pr : Nat) (wb : World) : Prop where
  lo : wb.heap.size ≤ pr
  tb : Tb wb
  len : src.length ≤ 1000000
theorem Txt.ok {src : Bs} {pr : Nat} {wb w : World} (X : Txt src pr wb) (h : Ext wb w) : BaseOk (· = pr) wb w := ⟨h, fun k hk => by subst hk; exact X.lo⟩
structure Con (src : Bs) (pr : Nat) (wb : World) (F : PF) : Prop where
  expr : ∀ (level d : Nat) (ts : List Tk) (w : World), level ≤ 8 → d ≤ 41 → Ext wb w → Rdr src pr ts w → F.expr level d ts ≠ .out → Cl Tryz.prog 111 #[.pointer (some ⟨pr, 0, none⟩), .int .i64 (level : Int), .int .i64 (d : Int)] w (OkE src pr (F.expr level d ts) w) (PanX (F.expr level d ts) pr w)
  unary : ∀ (d : Nat) (ts : List Tk) (w : World), d ≤ 41 → Ext wb w → Rdr src pr ts w → F.unary d ts ≠ .out → Cl Tryz.prog 130 #[.pointer (some ⟨pr, 0, none⟩), .int .i64 (d : Int)] w (OkE src pr (F.unary d ts) w) (PanX (F.unary d ts) pr w)
  primary : ∀ (d : Nat) (ts : List Tk) (w : World), d ≤ 41 → Ext wb w → Rdr src pr ts w → F.primary d ts ≠ .out → Cl Tryz.prog 145 #[.pointer (some ⟨pr, 0, none⟩), .int .i64 (d : Int)] w (OkE src pr (F.primary d ts) w) (PanX (F.primary d ts) pr w)
  block : ∀ (d : Nat) (ts : List Tk) (w : World), d ≤ 41 → Ext wb w → Rdr src pr ts w → F.block d ts ≠ .out → Cl Tryz.prog 62 #[.pointer (some ⟨pr, 0, none⟩), .int .i64 (d : Int)] w (OkB src pr (F.block d ts) w) (PanX (F.block d ts) pr w)
  choice : ∀ (d : Nat) (ts : List Tk) (w : World), d ≤ 40 → Ext wb w → Rdr src pr ts w → F.choice d ts ≠ .out → Cl Tryz.prog 110 #[.pointer (some ⟨pr, 0, none⟩), .int .i64 (d : Int)] w (OkS src pr (F.choice d ts) w) (PanX (F.choice d ts) pr w)
theorem Res.bind_ok {α β : Type} {a : α} {ts : List Tk} {k : α → List Tk → Res β} : (Res.ok a ts).bind k = k a ts := rfl
theorem Res.bind_assoc {α β γ : Type} {r : Res α} {k : α → List Tk → Res β} {g : β → List Tk → Res γ} : (r.bind k).bind g = r.bind fun a ts => (k a ts).bind g := by cases r <;> rfl
theorem Res.bind_out {α β : Type} {r : Res α} {k : α → List Tk → Res β} (h : r.bind k ≠ .out) : r ≠ .out := fun e => h (by rw [e]; rfl)
theorem Hp.ofR {S : Nat → Prop} {w0 w : World} {Γ Γ' : List Ck} {src : Bs} {pr nx : Nat} {t : Tk} {r : List Tk} (H : Hp S w0 w Γ) (hb : Blk w pr 68 (rdrCs src nx t))
    (u : Upd1 Γ (rdr src pr (t :: r)) (bk pr 68 (rdrCs src nx t)) Γ' := by (repeat (first | exact Upd1.head | apply Upd1.tail))) : Hp S w0 w Γ' :=
  Hp.upd (c := rdr src pr (t :: r)) H (Hp.start (S := (· = pr)) (bk_ok hb) (fun k hk => hk)) rfl (.inl rfl) u
section
variable {src : Bs} {pr : Nat} {wb : World} {F : PF} (X : Txt src pr wb) (C : Con src pr wb F)
include X C
set_option maxHeartbeats 2000000 in
theorem expr_c (level d : Nat) (ts : List Tk) (w : World) (hlv : level ≤ 8) (hd : d ≤ 41) (hwb : Ext wb w) (h : Rdr src pr ts w) (hne : exprP F level d ts ≠ .out) :
    Cl Tryz.prog 111 #[.pointer (some ⟨pr, 0, none⟩), .int .i64 (level : Int), .int .i64 (d : Int)] w (OkE src pr (exprP F level d ts) w) (PanX (exprP F level d ts) pr w) := by
  have HB := X.ok hwb
  refine calls_ex (args := [.pointer (some ⟨pr, 0, none⟩), .int .i64 (level : Int), .int .i64 (d : Int)]) T.ok Tryz.func111 rfl rfl rfl rfl ?_
  have H := Hp.start (S := (· = pr)) (rdr_ok h) (fun k hk => hk)
  refine Sq.mk ?_
  ((conv => whnf); refine Al.hp H ?_; clear H; intro p6 _ H _)
  by_cases h8 : level = 8
  · have hR : exprP F level d ts = F.unary d ts := by unfold exprP; rw [if_pos h8]
    rw [hR] at hne ⊢
    repeat' ((conv => whnf); first | refine ztS ?_ | (refine ztB ?_ ?_ <;> intro _ <;> try (exfalso; omega)) | (refine ztA ?_; clear H; intro _ _ H _) | fail)
    all_goals first | (exfalso; omega) | skip
    (conv => whnf)
    refine Cl.mkX (C.unary d ts _ hd (H.base2 HB) (H.atC 1 rfl) hne) ?_ ?_
    · rintro _ w2 ⟨⟨kd, o, n, nm, cb, A, c, l⟩, ts', h1, rfl, H'⟩
      replace H := H.updn (c := rdr src pr ts) (Hp.swap H') rfl (.inl rfl) (.inl rfl)
      clear H'
      repeat' ((conv => whnf); first | refine ztS ?_ | (refine ztB ?_ ?_ <;> intro _ <;> try (exfalso; omega)) | (refine ztA ?_; clear H; intro _ _ H _) | fail)
      exact ⟨.mk kd o n nm cb A c l, ts', h1, et_v rfl, H.sel [0, 1] rfl⟩
    · rintro ch w2 ⟨e, p, q, h1, rfl, H'⟩
      exact ⟨e, p, q, h1, rfl, Hp.pan H H' (.inl rfl)⟩
  · obtain ⟨R, hR⟩ : ∃ R, R = exprP F level d ts := ⟨_, rfl⟩
    rw [← hR] at hne ⊢
    unfold exprP at hR
    rw [if_neg h8] at hR
    have hw1 : IntKind.i64.wrap ((level : Int) + 1) = ((level + 1 : Nat) : Int) := w64 rfl (by omega) (by omega)
    have hex := fun ts w => C.expr (level + 1) d ts w (by omega) hd
    rw [← hw1] at hex
    repeat' ((conv => whnf); first | refine ztS ?_ | (refine ztB ?_ ?_ <;> intro _ <;> try (exfalso; omega)) | (refine ztA ?_; clear H; intro _ _ H _) | fail)
    all_goals first | (exfalso; omega) | skip
    (conv => whnf)
    refine Cl.mkX (hex ts _ (H.base2 HB) (H.atC 1 rfl) (Res.bind_out (by rw [← hR]; exact hne))) ?_ ?_
    · rintro _ w2 ⟨⟨kd, o, n, nm, cb, A, c, l⟩, ts', h1, rfl, H'⟩
      replace H := H.updn (c := rdr src pr ts) (Hp.swap H') rfl (.inl rfl) (.inl rfl)
      clear H'
      rw [h1] at hR
      replace hR : R = loopE F level d (ts'.length + 1) (ET.e (.mk kd o n nm cb A c l)) ts' := hR
      repeat' ((conv => whnf); first | refine ztS ?_ | (refine ztB ?_ ?_ <;> intro _ <;> try (exfalso; omega)) | (refine ztW ?_; clear H; intro _ _ H _) | fail)
      ((conv => whnf); refine Al.hp H ?_; clear H; intro p7 _ H _)
      repeat' ((conv => whnf); first | refine ztS ?_ | (refine ztB ?_ ?_ <;> intro _ <;> try (exfalso; omega)) | (refine ztA ?_; clear H; intro _ _ H _) | fail)
      refine Lp.g0 T.ok (σ := Nat × ET × List Tk) (fun q => [(7, .pointer (some ⟨p7, 0, none⟩)), (0, .pointer (some ⟨pr, 0, none⟩)), (1, .int .i64 (level : Int)), (2, .int .i64 (d : Int)), (6, .pointer (some ⟨p6, 0, none⟩))])
        (fun q w' => R = loopE F level d q.1 (ET.e q.2.1) q.2.2 ∧ Hp (· = pr) w w' [bk p7 74 (ET.enc q.2.1), trs [q.2.1], bk p6 74 T.t74.zero.cells.toList, rdr src pr q.2.2]) (fun q _ => q.1) (ts'.length + 1, .mk kd o n nm cb A c l, ts') rfl ⟨rfl, rfl, rfl, rfl, rfl, trivial⟩ ⟨hR, H⟩ ?_
      clear H hR h1
      rintro ⟨f, ⟨kd, o, n, nm, cb, A, c, l⟩, ts⟩ w5 ⟨hR, H⟩
      simp only at hR H ⊢
      cases f with
      | zero => exact absurd hR hne
      | succ f =>
      simp only [loopE] at hR
      by_cases hs : standsB level (curK ts) = true
      case neg =>
        rw [if_neg hs] at hR
        repeat' (first | ((conv => whnf); first | refine ztS ?_ | (refine ztB ?_ ?_ <;> intro _ <;> try (exfalso; omega)) | (refine ztA ?_; clear H; intro _ _ H _) | fail) | ((((conv => whnf); refine Cl.mk (stands_c level src pr ts _ (X.tb.ext (H.base2 HB)) (by omega) (H.atC 3 rfl)) ?_); rintro _ _ ⟨rfl, hx⟩; replace H := H.ext hx; clear hx); rw [Bool.eq_false_iff.2 hs]))
        exact ⟨.mk kd o n nm cb A c l, ts, hR, et_v rfl, H.sel [1, 2] rfl⟩
      rw [if_pos hs] at hR
      repeat' ((conv => whnf); first | refine ztS ?_ | (refine ztB ?_ ?_ <;> intro _ <;> try (exfalso; omega)) | (refine ztA ?_; clear H; intro _ _ H _) | fail)
      (((conv => whnf); refine Cl.mk (stands_c level src pr ts _ (X.tb.ext (H.base2 HB)) (by omega) (H.atC 3 rfl)) ?_); rintro _ _ ⟨rfl, hx⟩; replace H := H.ext hx; clear hx)
      rw [hs]
      obtain ⟨nx, t0, r0, rfl, hnx, hr0, hb0⟩ := H.atC (c := rdr src pr ts) 3 rfl
      replace H := Hp.ofR H hb0
      clear hb0
      repeat' ((conv => whnf); first | refine ztS ?_ | (refine ztB ?_ ?_ <;> intro _ <;> try (exfalso; omega)) | (refine ztA ?_; clear H; intro _ _ H _) | fail)
      replace H := Hp.toR H hnx hr0
      (conv => whnf)
      refine Cl.mkX (step_c false src pr (t0 :: r0) wb _ (H.base2 HB) X.lo X.tb X.len (H.atC 3 rfl) (stands_ne hs)) ?_ ?_
      rotate_left
      · rintro ch w2 ⟨e, p, q, h1, rfl, H'⟩
        exact ⟨e, p, q, by rw [hR, h1]; rfl, rfl, Hp.pan H H' (.inl rfl)⟩
      rintro _ w2 ⟨ts1, h1, H'⟩
      replace H := H.upd (c := rdr src pr (t0 :: r0)) H' rfl (.inl rfl)
      clear H'
      rw [h1] at hR
      replace hR : R = (F.expr (level + 1) d ts1).bind (fun r ts2 => loopE F level d f (joinP t0.kind (ET.e (.mk kd o n nm cb A c l)) r) ts2) := hR
      repeat' ((conv => whnf); first | refine ztS ?_ | (refine ztB ?_ ?_ <;> intro _ <;> try (exfalso; omega)) | (refine ztA ?_; clear H; intro _ _ H _) | fail)
      (conv => whnf)
      refine Cl.mkX (hex ts1 _ (H.base2 HB) (H.atC 3 rfl) (Res.bind_out (by rw [← hR]; exact hne))) ?_ ?_
      rotate_left
      · rintro ch w3 ⟨e, p, q, h2, rfl, H'⟩
        exact ⟨e, p, q, by rw [hR, h2]; rfl, rfl, Hp.pan H H' (.inl rfl)⟩
      rintro _ w3 ⟨⟨kd2, o2, n2, nm2, cb2, A2, c2, l2⟩, ts2, h2, rfl, H'⟩
      replace H := H.updn (c := rdr src pr ts1) (Hp.swap H') rfl (.inl rfl) (.inl rfl)
      clear H'
      rw [h2] at hR
      replace hR : R = loopE F level d f (joinP t0.kind (ET.e (.mk kd o n nm cb A c l)) (ET.e (.mk kd2 o2 n2 nm2 cb2 A2 c2 l2))) ts2 := hR
      repeat' ((conv => whnf); first | refine ztS ?_ | (refine ztB ?_ ?_ <;> intro _ <;> try (exfalso; omega)) | (refine ztW ?_; clear H; intro _ _ H _) | fail)
      ((conv => whnf); refine Al.hp H ?_; clear H; intro p9 _ H _)
      repeat' ((conv => whnf); first | refine ztS ?_ | (refine ztB ?_ ?_ <;> intro _ <;> try (exfalso; omega)) | (refine ztA ?_; clear H; intro _ _ H _) | fail)
      ((conv => whnf); refine Cl.mk (join_c t0.kind (.mk kd o n nm cb A c l) (.mk kd2 o2 n2 nm2 cb2 A2 c2 l2) _ (X.tb.ext (H.base2 HB))) ?_)
      rintro _ w6 ⟨kd3, o3, A3, c3, rfl, hj, H'⟩
      rw [hj] at hR
      replace H := H.fr0 H' (.inl rfl)
      repeat' ((conv => whnf); first | refine ztS ?_ | (refine ztB ?_ ?_ <;> intro _ <;> try (exfalso; omega)) | (refine ztA ?_; clear H; intro _ _ H _) | fail)
      replace H := H.sel [2, 3, 0, 1, 1, 1] rfl
      exact ⟨(f, .mk kd3 o3 0 [] [] A3 c3 [.mk kd o n nm cb A c l, .mk kd2 o2 n2 nm2 cb2 A2 c2 l2], ts2), ⟨rfl, rfl, rfl, rfl, rfl, trivial⟩, rfl, ⟨hR, Hp.swap (Hp.trsN kd3 o3 0 [] [] (Hp.swap (Hp.trsS H)))⟩, Nat.lt_succ_self f⟩
    · rintro ch w2 ⟨e, p, q, h1, rfl, H'⟩
      exact ⟨e, p, q, by rw [hR, h1]; rfl, rfl, Hp.pan H H' (.inl rfl)⟩
end
end Go.Proofs.YtfnjodpehomgfaaGreatDoor
namespace Go.Sh
open Go.RowKit
section
variable {P : Program} {T : Tab} {n : Nat} {ops : Array Oper}
def keepE (ops : Array Oper) : Env → Env
  | [] => []
  | (t, v) :: r => match (ops.toList.any fun o => match o.dst with | some d => Nat.beq d t | none => false) with
    | true => keepE ops r
    | false => (t, v) :: keepE ops r
theorem look_keepE {ops : Array Oper} : ∀ {E : Env} {t : Nat} {u : Value}, look (keepE ops E) t = some u → look E t = some u ∧ ∀ o ∈ ops.toList, o.dst ≠ some t
  | [], t, u, h => by simp [keepE, look] at h
  | (d, v) :: r, t, u, h => by
    unfold keepE at h
    split at h
    · rename_i hany
      obtain ⟨h1, h2⟩ := look_keepE h
      refine ⟨?_, h2⟩
      unfold look
      split
      · rename_i hb
        have hd := Nat.eq_of_beq_eq_true hb
        subst hd
        obtain ⟨o, ho, hb2⟩ := List.any_eq_true.1 hany
        split at hb2
        · rename_i d2 hd2
          have := Nat.eq_of_beq_eq_true hb2
          subst this
          exact absurd hd2 (h2 o ho)
        · simp at hb2
      · exact h1
    · rename_i hany
      unfold look at h ⊢
      split at h
      · rename_i hb
        refine ⟨h, fun o ho hd => ?_⟩
        have hdt := Nat.eq_of_beq_eq_true hb
        subst hdt
        have : (ops.toList.any fun o => match o.dst with | some d2 => Nat.beq d2 d | none => false) = true := List.any_eq_true.2 ⟨o, ho, by rw [hd]; simp⟩
        rw [this] at hany
        simp at hany
      · rename_i hb
        obtain ⟨h1, h2⟩ := look_keepE h
        exact ⟨h1, h2⟩
theorem keepE_dst {ops : Array Oper} {t : Nat} (h : ∀ o ∈ ops.toList, o.dst ≠ some t) (i : Nat) : dstOf ops i ≠ some t := by
  unfold dstOf
  intro e
  cases ho : ops[i]? with
  | none => rw [ho] at e; simp at e
  | some o =>
    rw [ho] at e
    exact h o (Array.mem_toList_iff.2 (Array.mem_of_getElem? ho)) (by simpa using e)
def stepChX (P : Program) (T : Tab) (n : Nat) (W : World → Prop) (Xc : List PanicEntry → World → Prop) (o : Oper) (_r : List Oper) (ih : Fr → World → (Fr → World → Prop) → Prop) (F : Fr) (w : World) (k : Fr → World → Prop) : Prop :=
  W w ∧ match dstOk n o.dst with
    | false => False
    | true => match o.guard with
      | some _ => False
      | none => exOp P T (evR o F) o w (fun v w' => ih (F.put o.dst v) w' k) Xc
def chOpsX (P : Program) (T : Tab) (n : Nat) (W : World → Prop) (Xc : List PanicEntry → World → Prop) (l : List Oper) : Fr → World → (Fr → World → Prop) → Prop :=
  List.rec (motive := fun _ => Fr → World → (Fr → World → Prop) → Prop) (fun F w k => k F w) (stepChX P T n W Xc) l
theorem Dr.chXk (hT : TabOk P T) (hm : P.follows .mixedOrders = true) (qis cs : List Nat) {id : Nat} {F : Fr} {w : World} {K : Exit → Fr → World → Prop} {ql cl : List Oper}
    (hB : chB ops qis cs = true) (hql : pickO ops qis = some ql) (hcl : pickO ops cs = some cl) (W : World → Prop) (Xc : List PanicEntry → World → Prop)
    (hX : ∀ ch w', Xc ch w' → K (.panic ch) ⟨keepE ops F.env, F.ds⟩ w')
    (h : ∀ w1, Ext w w1 → w1.heap.size = w.heap.size → quOps P T n W (fun a b => b = a) ops.toList ql F (fun F' => chOpsX P T n W Xc cl F' w1 (fun F w => K .normal F w))) : Dr P n id ops F w K := by
  obtain ⟨hac0, hcov, hqc, hclt, hqs, hcs, hcan, hlc, hlast0, huq0, hrq, hrc⟩ := chB_spec hB
  have hac : ∀ i, i < ops.size → ∀ j ∈ afterOf ops i, j < i := fun i hi => hac0 i (List.mem_range.2 hi)
  have hlast : ∀ j, j < ops.size - 1 → j ∈ ancF ops ops.size (ops.size - 1) := fun j hj => hlast0 j (List.mem_range.2 hj)
  have huq : ∀ i, i < ops.size → ∀ j, j < ops.size → i ≠ j → ∀ t, dstOf ops i = some t → dstOf ops j ≠ some t := fun i hi j hj hne t ht => by
    have := huq0 i (List.mem_range.2 hi) j (List.mem_range.2 hj) hne (by rw [ht]; simp)
    rwa [ht] at this
  have e1 : Ext w { w with drawn := w.drawn + 1 } := ⟨rfl, rfl, rfl, Nat.le_refl _, fun _ _ => rfl⟩
  obtain ⟨vals, F', hY, hlook, hds, hfin⟩ := quOps_trace hT ql F _ (h { w with drawn := w.drawn + 1 } e1 rfl)
  have hN : ops.size - 1 < ops.size := hclt _ hlc
  have hqget : ∀ m : Nat, (ql[m]?).bind (·.dst) = (qis[m]?).bind (dstOf ops) := fun m => by
    rw [pickO_get hql m]
    cases qis[m]? <;> rfl
  have hqpos : ∀ i, i ∈ qis → ∃ m, qis[m]? = some i := fun i hi => List.getElem?_of_mem hi
  have hqlt : ∀ (m m' i i' : Nat), qis[m]? = some i → qis[m']? = some i' → m < m' → i < i' := fun m m' i i' h1 h2 hlt => by
    obtain ⟨a1, a2⟩ := List.getElem?_eq_some_iff.1 h1
    obtain ⟨b1, b2⟩ := List.getElem?_eq_some_iff.1 h2
    have := List.pairwise_iff_getElem.1 hqs m m' a1 b1 hlt
    omega
  have hqinj : ∀ (m m' i : Nat), qis[m]? = some i → qis[m']? = some i → m = m' := fun m m' i h1 h2 => by
    rcases Nat.lt_trichotomy m m' with e | e | e
    · have := hqlt m m' i i h1 h2 e; omega
    · exact e
    · have := hqlt m' m i i h2 h1 e; omega
  refine ⟨fun a0 ha0 => ?_⟩
  refine wp_region_any hm ?_
  have main : ∀ (fuel : Nat) (listed : Array Bool) (a : Act) (w' : World) (j : Nat) (Fj : Fr), listed.size = ops.size → Closed ops listed → cnt listed ops.size ≤ fuel → ¬ Lst listed (ops.size - 1) →
      a.tmps.size = n → a.defers = F.ds → Fj.ds = F.ds → chOpsX P T n W Xc (cl.drop j) Fj w' (fun F w => K .normal F w) →
      (∀ m i, cs[m]? = some i → (Lst listed i ↔ m < j)) →
      (∀ m i, qis[m]? = some i → Lst listed i → ∀ d, dstOf ops i = some d → a.tmps[d]? = some (vals m)) →
      (∀ t u, look F.env t = some u → (∀ i, i < ops.size → Lst listed i → dstOf ops i ≠ some t) → a.tmps[t]? = some u) →
      (∀ t u, look Fj.env t = some u → (∃ i, i ∈ qis ∧ ¬ Lst listed i ∧ dstOf ops i = some t) ∨ a.tmps[t]? = some u) →
      (∀ t, (∀ i, i ∈ cs → dstOf ops i ≠ some t) → look Fj.env t = look F'.env t) →
      wpAny P .any ops (Lift n K) fuel listed a w' := by
    intro fuel
    induction fuel with
    | zero => intro listed a w' j Fj _ _ hc hnl; exact absurd (cnt_pos listed _ hnl ops.size hN) (by omega)
    | succ fuel ih =>
      intro listed a w' j Fj hs hcl' hc hnl hsz hdf hdj hch hcj hA hB' hG hFj
      refine ⟨fun hr => ?_, fun i hi => ?_⟩
      · exfalso
        have : ∃ i, i < ops.size ∧ ¬ Lst listed i ∧ ∀ j, j < i → Lst listed j := by
          have : ∀ m, m ≤ ops.size - 1 → (∀ j, j < m → Lst listed j) ∨ ∃ i, i < ops.size ∧ ¬ Lst listed i ∧ ∀ j, j < i → Lst listed j := by
            intro m
            induction m with
            | zero => intro _; exact .inl fun j hj => by omega
            | succ m ihm =>
              intro hm
              rcases ihm (by omega) with h1 | h1
              · by_cases hl : Lst listed m
                · exact .inl fun j hj => (Nat.lt_or_ge j m).elim (h1 j) fun h2 => (show j = m by omega) ▸ hl
                · exact .inr ⟨m, by omega, hl, h1⟩
              · exact .inr h1
          rcases this (ops.size - 1) (Nat.le_refl _) with h1 | h1
          · exact ⟨ops.size - 1, hN, hnl, h1⟩
          · exact h1
        obtain ⟨i, h1, h2, h3⟩ := this
        have := (mem_ready hs hac).2 ⟨h1, h2, fun j hj => h3 j (hac i h1 j hj)⟩
        rw [hr] at this
        exact absurd this (by simp)
      · obtain ⟨hi1, hi2, hi3⟩ := (mem_ready hs hac).1 hi
        have hs' : (listed.setIfInBounds i true).size = ops.size := by simpa using hs
        have hLs : ∀ j, Lst (listed.setIfInBounds i true) j ↔ j = i ∨ Lst listed j := fun j => by
          unfold Lst; rw [getD_set _ _ _ (by omega)]; by_cases e : j = i <;> simp [e]
        have hcl'' : Closed ops (listed.setIfInBounds i true) := fun m hm hl j hj => by
          rw [hLs] at hl ⊢
          rcases hl with rfl | hl
          · exact .inr (hi3 j hj)
          · exact .inr (hcl' m hm hl j hj)
        have hc' : cnt (listed.setIfInBounds i true) ops.size ≤ fuel := by
          have := cnt_set listed i (by omega) hi2 ops.size
          rw [if_pos hi1] at this; omega
        have hanc : ∀ j, j ∈ ancF ops ops.size i → Lst listed j := fun j hj => by
          have := closed_anc hcl'' hac ops.size i j hi1 ((hLs i).2 (.inl rfl)) hj
          rcases (hLs j).1 this with rfl | h1
          · exfalso
            have lt : ∀ (f m j : Nat), m < ops.size → j ∈ ancF ops f m → j < m := by
              intro f
              induction f with
              | zero => intro m j _ h; simp [ancF] at h
              | succ f ihf =>
                intro m j hm h
                simp only [ancF, List.mem_flatMap, List.mem_cons] at h
                obtain ⟨q, hq, h⟩ := h
                have hqm := hac m hm q hq
                rcases h with rfl | h
                · exact hqm
                · have := ihf q j (by omega) h; omega
            have := lt _ _ _ hi1 hj; omega
          · exact h1
        obtain ⟨o, ho⟩ : ∃ o, ops[i]? = some o := ⟨ops[i], Array.getElem?_eq_getElem hi1⟩
        have hdi : dstOf ops i = o.dst := by simp [dstOf, ho]
        have hrdi : rdOf ops i = tmpsOf o ++ gdOf ops o := by unfold rdOf; simp only [ho]
        have hjlt : j < cs.length := by
          obtain ⟨m, hm⟩ := List.getElem?_of_mem hlc
          have h1 := (List.getElem?_eq_some_iff.1 hm).1
          have h2 := hcj m _ hm
          exact Nat.lt_of_not_le fun h3 => hnl (h2.2 (by omega))
        obtain ⟨ci, hci⟩ : ∃ c, cs[j]? = some c := ⟨cs[j], List.getElem?_eq_getElem hjlt⟩
        obtain ⟨oc, hoc⟩ : ∃ o, ops[ci]? = some o := ⟨_, Array.getElem?_eq_getElem (hclt ci (List.mem_of_getElem? hci))⟩
        have hclj : cl[j]? = some oc := by rw [pickO_get hcl j, hci]; exact hoc
        have hdrop : cl.drop j = oc :: cl.drop (j + 1) := by
          obtain ⟨h1, h2⟩ := List.getElem?_eq_some_iff.1 hclj
          rw [List.drop_eq_getElem_cons h1, h2]
        rw [hdrop] at hch
        have hch' : stepChX P T n W Xc oc (cl.drop (j + 1)) (chOpsX P T n W Xc (cl.drop (j + 1))) Fj w' (fun F w => K .normal F w) := hch
        obtain ⟨hWw, hrest⟩ := hch'
        unfold wpOp
        simp only [ho]
        by_cases hic : i ∈ cs
        · -- the chain's next
          have hii : i = ci := by
            obtain ⟨m, hm⟩ := List.getElem?_of_mem hic
            have hmj : ¬ m < j := fun e => hi2 ((hcj m i hm).2 e)
            rcases Nat.lt_or_ge j m with e | e
            · exfalso
              have h1 := (List.getElem?_eq_some_iff.1 hm)
              have h2 := (List.getElem?_eq_some_iff.1 hci)
              obtain ⟨h1a, h1b⟩ := h1
              obtain ⟨h2a, h2b⟩ := h2
              have hlt := List.pairwise_iff_getElem.1 hcs j m h2a h1a e
              rw [h1b, h2b] at hlt
              have := hanc ci (hcan ci (List.mem_of_getElem? hci) i hic hlt)
              have := (hcj j ci hci).1 this
              omega
            · have : m = j := by omega
              subst this
              rw [hci] at hm; simpa using hm.symm
          subst hii
          rw [ho] at hoc
          obtain rfl : o = oc := by simpa using hoc
          split at hrest
          · exact hrest.elim
          rename_i hdo
          split at hrest
          · exact hrest.elim
          rename_i hgn
          rw [if_pos (wanted_none hgn)]
          refine .inl ?_
          have hev : ∀ x u, evR o Fj x = some u → a.eval x = u := ev_of_phi (Φ := look Fj.env) (fun t => rfl) fun t ht u hu => by
            rcases hG t u hu with ⟨q, hq1, hq2, hq3⟩ | hu'
            · exfalso
              have hqi : q ≠ i := fun e => (hqc q hq1).1 (e ▸ hic)
              exact hq2 (hanc q (hrc i hic q (List.mem_range.2 (hqc q hq1).2) hqi t (by rw [hrdi]; exact List.mem_append_left _ ht) hq3))
            · exact hu'
          refine exOp_sound hT hev hrest (fun v w2 hnx => ?_) (fun ch w2 q => ⟨⟨keepE ops F.env, F.ds⟩, ⟨hsz, hdf, fun t v h => hB' t v (look_keepE h).1 fun i hi _ => keepE_dst (look_keepE h).2 i⟩, hX _ _ q⟩)
          have hG2 : ∀ t u, look (Fj.put o.dst v).env t = some u → (∃ q, q ∈ qis ∧ ¬ Lst (listed.setIfInBounds i true) q ∧ dstOf ops q = some t) ∨ (a.put o.dst v).tmps[t]? = some u := fun t u ht => by
            by_cases hd : o.dst = some t
            · rw [hd] at ht hdo ⊢
              rw [look_put_eq] at ht
              simp at ht; subst ht
              exact .inr (act_put_eq (by rw [hsz]; exact hdo))
            · rw [act_put_ne hd]
              have ht' : look Fj.env t = some u := by rw [look_put_ne hd] at ht; exact ht
              rcases hG t u ht' with ⟨q, hq1, hq2, hq3⟩ | hu
              · refine .inl ⟨q, hq1, fun e => ?_, hq3⟩
                rcases (hLs q).1 e with e | e
                · exact (hqc q hq1).1 (e ▸ hic)
                · exact hq2 e
              · exact .inr hu
          have hds2 : (Fj.put o.dst v).ds = F.ds := by cases o.dst <;> exact hdj
          by_cases hl' : i = ops.size - 1
          · -- the last
            have hall : ∀ q, q < ops.size → Lst (listed.setIfInBounds i true) q := fun q hq => by
              rw [hLs]
              by_cases e : q = i
              · exact .inl e
              · exact .inr (hanc q (by rw [hl']; exact hlast q (by omega)))
            have hready : Region.ready .any ops (listed.setIfInBounds i true) = [] := by
              rw [List.eq_nil_iff_forall_not_mem]
              intro q hq
              obtain ⟨h1, h2, _⟩ := (mem_ready hs' hac).1 hq
              exact h2 (hall q h1)
            have hagr : Agr n (Fj.put o.dst v) (a.put o.dst v) := ⟨by rw [act_put_size, hsz], by rw [act_put_defers, hds2, hdf], fun t u ht => by
              rcases hG2 t u ht with ⟨q, hq1, hq2, hq3⟩ | hu
              · exact absurd (hall q (hqc q hq1).2) hq2
              · exact hu⟩
            have hend : cl.drop (j + 1) = [] := by
              refine List.drop_eq_nil_of_le ?_
              rw [pickO_len hcl]
              refine Nat.le_of_not_lt fun hlt => ?_
              obtain ⟨c2, hc2⟩ : ∃ c, cs[j + 1]? = some c := ⟨cs[j + 1], List.getElem?_eq_getElem hlt⟩
              obtain ⟨h1a, h1b⟩ := List.getElem?_eq_some_iff.1 hc2
              obtain ⟨h2a, h2b⟩ := List.getElem?_eq_some_iff.1 hci
              have h3 := List.pairwise_iff_getElem.1 hcs j (j + 1) h2a h1a (by omega)
              rw [h1b, h2b] at h3
              have := hclt c2 (List.mem_of_getElem? hc2)
              omega
            rw [hend] at hnx
            have q : Lift n K .normal (a.put o.dst v) w2 := ⟨_, hagr, hnx⟩
            cases fuel with
            | zero => exact ⟨hready, q⟩
            | succ f => exact ⟨fun _ => q, fun j hj => by rw [hready] at hj; exact absurd hj (by simp)⟩
          · refine ih _ _ _ (j + 1) (Fj.put o.dst v) hs' hcl'' hc' (fun e => ?_) (by rw [act_put_size, hsz]) (by rw [act_put_defers, hdf]) hds2 hnx (fun m q hq => ?_) (fun m q hq hl d hd => ?_) (fun t u ht hno => ?_) hG2 (fun t ht => ?_)
            · rcases (hLs _).1 e with e | e
              · exact hl' e.symm
              · exact hnl e
            · rw [hLs, hcj m q hq]
              constructor
              · rintro (e | e)
                · subst e
                  have hmj : m = j := by
                    rcases Nat.lt_trichotomy m j with e | e | e
                    · exact absurd ((hcj m _ hq).2 e) hi2
                    · exact e
                    · obtain ⟨h1a, h1b⟩ := List.getElem?_eq_some_iff.1 hq
                      obtain ⟨h2a, h2b⟩ := List.getElem?_eq_some_iff.1 hci
                      have h3 := List.pairwise_iff_getElem.1 hcs j m h2a h1a e
                      omega
                  omega
                · omega
              · intro e
                by_cases hmj : m = j
                · subst hmj; rw [hci] at hq; simp at hq; exact .inl hq.symm
                · exact .inr (by omega)
            · have hqm := List.mem_of_getElem? hq
              have hqi : q ≠ i := fun e => (hqc q hqm).1 (e ▸ hic)
              rw [act_put_ne (fun e => huq q (hqc q hqm).2 i hi1 hqi d hd (by rw [hdi, e]))]
              exact hA m q hq (((hLs q).1 hl).resolve_left hqi) d hd
            · rw [act_put_ne (fun e => hno i hi1 ((hLs i).2 (.inl rfl)) (by rw [hdi, e]))]
              exact hB' t u ht fun q hq hl => hno q hq ((hLs q).2 (.inr hl))
            · rw [← hFj t ht, look_put_ne (fun e => ht i hic (by rw [hdi, e]))]
        · -- a quiet one
          have hiq : i ∈ qis := (hcov i (List.mem_range.2 hi1)).resolve_right hic
          obtain ⟨m, hmi⟩ := hqpos i hiq
          obtain ⟨hdo, hy⟩ := hY m o (by rw [pickO_get hql m, hmi]; exact ho)
          have hreads : ∀ t ∈ tmpsOf o ++ gdOf ops o, ∀ u, PhiF F ql vals m t = some u → a.tmps[t]? = some u := by
            intro t ht u hu
            rw [← hrdi] at ht
            rcases PhiF_cases m hu with ⟨k, hk, hkd, rfl⟩ | ⟨hno, hu'⟩
            · rw [hqget] at hkd
              cases hqk : qis[k]? with
              | none => rw [hqk] at hkd; simp at hkd
              | some q =>
                rw [hqk] at hkd
                have hqlt' := hqlt k m q i hqk hmi hk
                have hqm := List.mem_of_getElem? hqk
                rcases (hrq i hiq q (List.mem_range.2 (hqc q hqm).2) (by omega) t ht hkd).2 with ⟨_, h2⟩ | ⟨h2, _⟩
                · exact hA k q hqk (hanc q h2) t hkd
                · omega
            · refine hB' t u hu' fun q hq hl hd => ?_
              by_cases hqi : q = i
              · subst hqi; exact hi2 hl
              obtain ⟨h1, h2⟩ := hrq i hiq q (List.mem_range.2 hq) hqi t ht hd
              obtain ⟨k, hk⟩ := hqpos q h1
              rcases h2 with ⟨h2, h3⟩ | ⟨h2, h3⟩
              · have hkm : k < m := by
                  rcases Nat.lt_trichotomy k m with e | e | e
                  · exact e
                  · subst e; rw [hmi] at hk; simp at hk; omega
                  · have := hqlt m k i q hmi hk e; omega
                exact hno k hkm (by rw [hqget, hk]; exact hd)
              · exact hi2 (closed_anc hcl' hac ops.size q i hq hl h3)
          have hnext : wpAny P .any ops (Lift n K) fuel (listed.setIfInBounds i true) (a.put o.dst (vals m)) w' := by
            refine ih _ _ _ j Fj hs' hcl'' hc' (fun e => ?_) (by rw [act_put_size, hsz]) (by rw [act_put_defers, hdf]) hdj (by rw [hdrop]; exact hch) (fun k q hq => ?_) (fun k q hq hl d hd => ?_) (fun t u ht hno => ?_) (fun t u ht => ?_) hFj
            · rcases (hLs _).1 e with e | e
              · exact hic (e ▸ hlc)
              · exact hnl e
            · rw [hLs, ← hcj k q hq]
              exact ⟨fun e => e.resolve_left (fun e => hic (e ▸ List.mem_of_getElem? hq)), .inr⟩
            · by_cases e : q = i
              · subst e
                have := hqinj k m q hq hmi
                subst this
                rw [hdi] at hd
                rw [hd] at hdo ⊢
                exact act_put_eq (by rw [hsz]; exact hdo)
              · have hqm := List.mem_of_getElem? hq
                rw [act_put_ne (fun e' => huq q (hqc q hqm).2 i hi1 e d hd (by rw [hdi, e']))]
                exact hA k q hq (((hLs q).1 hl).resolve_left e) d hd
            · rw [act_put_ne (fun e => hno i hi1 ((hLs i).2 (.inl rfl)) (by rw [hdi, e]))]
              exact hB' t u ht fun q hq hl => hno q hq ((hLs q).2 (.inr hl))
            · by_cases hd : o.dst = some t
              · refine .inr ?_
                have hF' : look F'.env t = some u := by
                  rw [← hFj t (fun q hq e => huq i hi1 q (hclt q hq) (fun e' => hic (e' ▸ hq)) t (by rw [hdi, hd]) e)]
                  exact ht
                rw [hlook] at hF'
                rcases PhiF_cases _ hF' with ⟨k, hk, hkd, rfl⟩ | ⟨hno, _⟩
                · rw [hqget] at hkd
                  cases hqk : qis[k]? with
                  | none => rw [hqk] at hkd; simp at hkd
                  | some q =>
                    rw [hqk] at hkd
                    have hqm := List.mem_of_getElem? hqk
                    have hqi : q = i := Classical.byContradiction fun e => huq i hi1 q (hqc q hqm).2 (fun e' => e e'.symm) t (by rw [hdi, hd]) hkd
                    subst hqi
                    have := hqinj k m q hqk hmi
                    subst this
                    rw [hd] at hdo ⊢
                    exact act_put_eq (by rw [hsz]; exact hdo)
                · exact absurd (by rw [hqget, hmi]; show dstOf ops i = some t; rw [hdi, hd]) (hno m (by rw [pickO_len hql]; exact (List.getElem?_eq_some_iff.1 hmi).1))
              · rw [act_put_ne hd]
                rcases hG t u ht with ⟨q, hq1, hq2, hq3⟩ | hu
                · refine .inl ⟨q, hq1, fun e => ?_, hq3⟩
                  rcases (hLs q).1 e with e | e
                  · exact hd (by rw [← hdi, ← e]; exact hq3)
                  · exact hq2 e
                · exact .inr hu
          rcases hy a hreads with ⟨hno, hv⟩ | ⟨hyes, hrun⟩
          · rw [if_neg (by rw [hno]; simp)]
            rw [← hv]
            exact hnext
          · rw [if_pos hyes]
            refine .inl ?_
            unfold Oper.wp
            rcases hrun w' hWw with e | ⟨f, args, e, hcl2⟩
            · exact upon_val e hnext
            · rw [e]
              refine Calls.mono hcl2.out fun en w'' q => ?_
              cases en with
              | returned u => obtain ⟨q1, q2⟩ := q; subst q1; subst q2; exact hnext
              | panicked ch => exact q.elim
              | outgrown => exact q.elim
  have hf : ∀ i, i < ops.size → ¬ Lst (Array.replicate ops.size false) i := fun i hi hl => absurd hl (by unfold Lst; simp [Array.getD_eq_getD_getElem?, hi])
  refine main ops.size _ a0 _ 0 F' (by simp) (fun i hi hl => absurd hl (hf i hi)) ?_ (hf _ hN) ha0.1 ha0.2.1 hds (by rw [List.drop_zero]; exact hfin) (fun m i hi => ⟨fun hl => absurd hl (hf i (hclt i (List.mem_of_getElem? hi))), fun e => by omega⟩)
    (fun m i hi hl => absurd hl (hf i (hqc i (List.mem_of_getElem? hi)).2)) (fun t u ht _ => ha0.2.2 t u ht) (fun t u ht => ?_) (fun _ _ => rfl)
  · have : ∀ m, m ≤ ops.size → cnt (Array.replicate ops.size false) m ≤ m := by
      intro m
      induction m with
      | zero => intro _; simp [cnt]
      | succ m ihm => intro h; have := ihm (by omega); simp only [cnt]; split <;> omega
    exact this _ (Nat.le_refl _)
  · rw [hlook] at ht
    rcases PhiF_cases _ ht with ⟨k, hk, hkd, rfl⟩ | ⟨_, hu⟩
    · rw [hqget] at hkd
      cases hqk : qis[k]? with
      | none => rw [hqk] at hkd; simp at hkd
      | some q =>
        rw [hqk] at hkd
        have hqm := List.mem_of_getElem? hqk
        exact .inl ⟨q, hqm, hf q (hqc q hqm).2, hkd⟩
    · exact .inr (ha0.2.2 t u hu)
theorem Dr.chX (hT : TabOk P T) (hm : P.follows .mixedOrders = true) (qis cs : List Nat) {id : Nat} {F : Fr} {w : World} {K : Exit → Fr → World → Prop} {ql cl : List Oper}
    (hB : chB ops qis cs = true) (hql : pickO ops qis = some ql) (hcl : pickO ops cs = some cl) (W : World → Prop) (Xc : List PanicEntry → World → Prop)
    (hX : ∀ ch F' w', F'.ds = F.ds → Xc ch w' → K (.panic ch) F' w')
    (h : ∀ w1, Ext w w1 → w1.heap.size = w.heap.size → quOps P T n W (fun a b => b = a) ops.toList ql F (fun F' => chOpsX P T n W Xc cl F' w1 (fun F w => K .normal F w))) : Dr P n id ops F w K :=
  Dr.chXk hT hm qis cs hB hql hcl W Xc (fun ch w' q => hX ch _ w' rfl q) h
end
end Go.Sh
namespace Go.Proofs.YtfnjodpehomgfaaGreatDoor
open Go Go.Sh Go.Tx
attribute [local irreducible] Blk Ext RdS
section
variable {src : Bs} {pr : Nat} {wb : World} {F : PF} (X : Txt src pr wb) (C : Con src pr wb F)
include X C
set_option maxHeartbeats 2000000 in
theorem args_c (d : Nat) (ts : List Tk) (w : World) (hd : d ≤ 41) (hwb : Ext wb w) (h : Rdr src pr ts w) (hne : argsP F d (ts.length + 1) [] ts ≠ .out) :
    Cl Tryz.prog 133 #[.pointer (some ⟨pr, 0, none⟩), .int .i64 (d : Int)] w (OkL src pr (argsP F d (ts.length + 1) [] ts) w) (PanX (argsP F d (ts.length + 1) [] ts) pr w) := by
  have HB := X.ok hwb
  have hN := h.len
  have hsl := X.len
  obtain ⟨R, hR⟩ : ∃ R, R = argsP F d (ts.length + 1) [] ts := ⟨_, rfl⟩
  rw [← hR] at hne ⊢
  generalize hN0 : ts.length + 1 = N at hR
  have hNb : N ≤ 1000010 := by omega
  refine calls_ex (args := [.pointer (some ⟨pr, 0, none⟩), .int .i64 (d : Int)]) T.ok Tryz.func133 rfl rfl rfl rfl ?_
  have H := Hp.start (S := (· = pr)) (rdr_ok h) (fun k hk => hk)
  replace H := Hp.nil (Hp.trs0 H) ET.enc 6 74
  repeat' ((conv => whnf); first | refine ztS ?_ | (refine ztB ?_ ?_ <;> intro _ <;> try (exfalso; omega)) | (refine ztA ?_; clear H; intro _ _ H _) | fail)
  refine Lp.g0 T.ok (σ := Nat × Option Addr × Nat × List ET × List Tk) (fun q => [(5, .slice q.2.1 q.2.2.2.1.length q.2.2.1), (4, .slice none 0 0), (0, .pointer (some ⟨pr, 0, none⟩)), (1, .int .i64 (d : Int))])
    (fun q w' => R = argsP F d q.1 (ET.es q.2.2.2.1) q.2.2.2.2 ∧ q.1 + q.2.2.2.1.length ≤ N ∧ Hp (· = pr) w w' [qu ET.enc 6 74 q.2.1 q.2.2.1 q.2.2.2.1, trs q.2.2.2.1, rdr src pr q.2.2.2.2]) (fun q _ => q.1) (N, none, 0, [], ts) rfl ⟨rfl, rfl, rfl, rfl, trivial⟩ ⟨hR, Nat.le_refl _, H⟩ ?_
  clear H hR hN0 hN h
  rintro ⟨f, A, c, l, ts⟩ w5 ⟨hR, hN, H⟩
  simp only at hR hN H ⊢
  cases f with
  | zero => exact absurd hR hne
  | succ f =>
  simp only [argsP, ET.es_len] at hR
  (obtain ⟨nx, t0, r0, rfl, hnx, hr0, hb0⟩ := H.atC (c := rdr src pr ts) 2 rfl; replace H := Hp.ofR H hb0; clear hb0)
  by_cases hk : t0.kind = s_rp
  · rw [if_pos (show curK (t0 :: r0) = s_rp from hk)] at hR
    repeat' ((conv => whnf); first | refine ztT ?_ | (refine ztB ?_ ?_ <;> intro _ <;> try (exfalso; omega)) | (refine ztA ?_; clear H; intro _ _ H _) | fail)
    (replace H := Hp.toR H hnx hr0; clear hnx hr0)
    (((conv => whnf); refine Cl.mkX (take_c s_rp src pr (t0 :: r0) wb _ (H.base2 HB) X.lo X.tb X.len (H.atC 2 rfl) (by decide)) ?_ ?_; rotate_left; (rintro ch w9 ⟨e9, p9, q9, h9, rfl, H'⟩; exact ⟨e9, p9, q9, (by rw [hR, h9]; rfl), rfl, Hp.pan H H' (.inl rfl)⟩)); rintro _ w8 ⟨t1, ts1, h1, rfl, H'⟩; replace H := H.upd (c := rdr src pr (t0 :: r0)) H' rfl (.inl rfl); clear H'; rw [h1, Res.bind_ok] at hR; clear h1)
    repeat' ((conv => whnf); first | refine ztT ?_ | (refine ztB ?_ ?_ <;> intro _ <;> try (exfalso; omega)) | (refine ztA ?_; clear H; intro _ _ H _) | fail)
    exact ⟨A, c, l, ts1, hR, rfl, by omega, H⟩
  rw [if_neg (show ¬ curK (t0 :: r0) = s_rp from hk)] at hR
  by_cases hl0 : l.length = 0
  · rw [if_neg (by omega), Res.bind_ok] at hR
    repeat' ((conv => whnf); first | refine ztT ?_ | (refine ztB ?_ ?_ <;> intro _ <;> try (exfalso; omega)) | (refine ztA ?_; clear H; intro _ _ H _) | fail)
    all_goals first | (exfalso; omega) | skip
    (replace H := Hp.toR H hnx hr0; clear hnx hr0)
    replace hR : R = (F.expr 0 d (t0 :: r0)).bind fun e ts2 => argsP F d f (ET.es l ++ [e]) ts2 := hR
    repeat' ((conv => whnf); first | refine ztT ?_ | (refine ztB ?_ ?_ <;> intro _ <;> try (exfalso; omega)) | (refine ztA ?_; clear H; intro _ _ H _) | fail)
    ((conv => whnf); refine Cl.mkX (C.expr 0 d (t0 :: r0) _ (by omega) hd (H.base2 HB) (H.atC 2 rfl) (Res.bind_out (by rw [← hR]; exact hne))) ?_ ?_; rotate_left; (rintro ch w9 ⟨e9, p9, q9, h9, rfl, H'⟩; exact ⟨e9, p9, q9, (by rw [hR, h9]; rfl), rfl, Hp.pan H H' (.inl rfl)⟩))
    rintro _ w3 ⟨⟨kd, o, n, nm, cb, A2, c2, l2⟩, ts2, h2, rfl, H'⟩
    replace H := H.updn (c := rdr src pr (t0 :: r0)) (Hp.swap H') rfl (.inl rfl) (.inl rfl)
    clear H'
    rw [h2, Res.bind_ok] at hR
    refine Sm.lith (cs := ET.enc (.mk kd o n nm cb A2 c2 l2)) H T.ok (fun p5 w4 H _ => ?_)
    refine Sm.ap1 (enc := ET.enc) (.mk kd o n nm cb A2 c2 l2) H T.ok ?_ ?_ (fun A' c' w6 H => ?_)
    · show (l.length + 1) * 80 ≤ _; omega
    · omega
    simp only [List.cons_append, List.nil_append] at H
    repeat' ((conv => whnf); first | refine ztT ?_ | (refine ztB ?_ ?_ <;> intro _ <;> try (exfalso; omega)) | (refine ztA ?_; clear H; intro _ _ H _) | fail)
    refine ⟨(f, A', c', l ++ [.mk kd o n nm cb A2 c2 l2], ts2), ⟨at_val rfl (by simp), rfl, rfl, rfl, trivial⟩, rfl, ⟨?_, ?_, ?_⟩, Nat.lt_succ_self f⟩
    · rw [hR, ET.es_app]; rfl
    · simp only [List.length_append, List.length_cons, List.length_nil]; omega
    · exact Hp.swap (Hp.trsS (H.sel [0, 1, 0, 0] rfl))
  · rw [if_pos hl0] at hR
    replace hR : R = (takeP s_comma (t0 :: r0)).bind fun _ ts1 => (F.expr 0 d ts1).bind fun e ts2 => argsP F d f (ET.es l ++ [e]) ts2 := by
      rw [hR]
      cases takeP s_comma (t0 :: r0) <;> rfl
    repeat' ((conv => whnf); first | refine ztT ?_ | (refine ztB ?_ ?_ <;> intro _ <;> try (exfalso; omega)) | (refine ztA ?_; clear H; intro _ _ H _) | fail)
    all_goals first | (exfalso; omega) | skip
    (replace H := Hp.toR H hnx hr0; clear hnx hr0)
    (((conv => whnf); refine Cl.mkX (take_c s_comma src pr (t0 :: r0) wb _ (H.base2 HB) X.lo X.tb X.len (H.atC 2 rfl) (by decide)) ?_ ?_; rotate_left; (rintro ch w9 ⟨e9, p9, q9, h9, rfl, H'⟩; exact ⟨e9, p9, q9, (by rw [hR, h9]; rfl), rfl, Hp.pan H H' (.inl rfl)⟩)); rintro _ w8 ⟨t1, ts1, h1, rfl, H'⟩; replace H := H.upd (c := rdr src pr (t0 :: r0)) H' rfl (.inl rfl); clear H'; rw [h1, Res.bind_ok] at hR; clear h1)
    replace hR : R = (F.expr 0 d ts1).bind fun e ts2 => argsP F d f (ET.es l ++ [e]) ts2 := hR
    repeat' ((conv => whnf); first | refine ztT ?_ | (refine ztB ?_ ?_ <;> intro _ <;> try (exfalso; omega)) | (refine ztA ?_; clear H; intro _ _ H _) | fail)
    ((conv => whnf); refine Cl.mkX (C.expr 0 d ts1 _ (by omega) hd (H.base2 HB) (H.atC 2 rfl) (Res.bind_out (by rw [← hR]; exact hne))) ?_ ?_; rotate_left; (rintro ch w9 ⟨e9, p9, q9, h9, rfl, H'⟩; exact ⟨e9, p9, q9, (by rw [hR, h9]; rfl), rfl, Hp.pan H H' (.inl rfl)⟩))
    rintro _ w3 ⟨⟨kd, o, n, nm, cb, A2, c2, l2⟩, ts2, h2, rfl, H'⟩
    replace H := H.updn (c := rdr src pr ts1) (Hp.swap H') rfl (.inl rfl) (.inl rfl)
    clear H'
    rw [h2, Res.bind_ok] at hR
    refine Sm.lith (cs := ET.enc (.mk kd o n nm cb A2 c2 l2)) H T.ok (fun p5 w4 H _ => ?_)
    refine Sm.ap1 (enc := ET.enc) (.mk kd o n nm cb A2 c2 l2) H T.ok ?_ ?_ (fun A' c' w6 H => ?_)
    · show (l.length + 1) * 80 ≤ _; omega
    · omega
    simp only [List.cons_append, List.nil_append] at H
    repeat' ((conv => whnf); first | refine ztT ?_ | (refine ztB ?_ ?_ <;> intro _ <;> try (exfalso; omega)) | (refine ztA ?_; clear H; intro _ _ H _) | fail)
    refine ⟨(f, A', c', l ++ [.mk kd o n nm cb A2 c2 l2], ts2), ⟨at_val rfl (by simp), rfl, rfl, rfl, trivial⟩, rfl, ⟨?_, ?_, ?_⟩, Nat.lt_succ_self f⟩
    · rw [hR, ET.es_app]; rfl
    · simp only [List.length_append, List.length_cons, List.length_nil]; omega
    · exact Hp.swap (Hp.trsS (H.sel [0, 1, 0, 0] rfl))
set_option maxHeartbeats 4000000 in
theorem form_c (k : Bs) (d : Nat) (ts : List Tk) (w : World) (hd : d ≤ 41) (hwb : Ext wb w) (h : Rdr src pr ts w) (hne : formP F k d ts ≠ .out) :
    Cl Tryz.prog 150 #[.pointer (some ⟨pr, 0, none⟩), .string (bs k), .int .i64 (d : Int)] w (OkE src pr (formP F k d ts) w) (PanX (formP F k d ts) pr w) := by
  have HB := X.ok hwb
  have hsl := X.len
  obtain ⟨R, hR⟩ : ∃ R, R = formP F k d ts := ⟨_, rfl⟩
  rw [← hR] at hne ⊢
  unfold formP at hR
  refine calls_ex (args := [.pointer (some ⟨pr, 0, none⟩), .string (bs k), .int .i64 (d : Int)]) T.ok Tryz.func150 rfl rfl rfl rfl ?_
  have H := Hp.start (S := (· = pr)) (rdr_ok h) (fun k hk => hk)
  clear h
  refine Sq.mk ?_
  ((conv => whnf); refine Al.hp H ?_; clear H; intro p6 _ H _)
  repeat' ((conv => whnf); first | refine ztS ?_ | (refine ztB ?_ ?_ <;> intro _ <;> try (exfalso; omega)) | (refine ztW ?_; clear H; intro _ _ H _) | fail)
  ((conv => whnf); refine Al.hp H ?_; clear H; intro p7 _ H _)
  by_cases hk1 : k = k_reduce
  · rw [if_pos hk1] at hR
    repeat' ((conv => whnf); first | refine ztT ?_ | (refine ztB ?_ ?_ <;> intro _ <;> try (exfalso; omega)) | (refine ztA ?_; clear H; intro _ _ H _) | fail)
    (((conv => whnf); refine Cl.mkX (take_c k_name src pr (ts) wb _ (H.base2 HB) X.lo X.tb X.len (H.atC 2 rfl) (by decide)) ?_ ?_; rotate_left; (rintro ch w9 ⟨e9, p9, q9, h9, rfl, H'⟩; exact ⟨e9, p9, q9, (by rw [hR, h9]; rfl), rfl, Hp.pan H H' (.inl rfl)⟩)); rintro _ w8 ⟨t1, ts1, h1, rfl, H'⟩; replace H := H.upd (c := rdr src pr (ts)) H' rfl (.inl rfl); clear H'; rw [h1, Res.bind_ok] at hR; clear h1)
    repeat' ((conv => whnf); first | refine ztT ?_ | (refine ztB ?_ ?_ <;> intro _ <;> try (exfalso; omega)) | (refine ztA ?_; clear H; intro _ _ H _) | fail)
    (((conv => whnf); refine Cl.mkX (take_c s_comma src pr (ts1) wb _ (H.base2 HB) X.lo X.tb X.len (H.atC 2 rfl) (by decide)) ?_ ?_; rotate_left; (rintro ch w9 ⟨e9, p9, q9, h9, rfl, H'⟩; exact ⟨e9, p9, q9, (by rw [hR, h9]; rfl), rfl, Hp.pan H H' (.inl rfl)⟩)); rintro _ w8 ⟨t2, ts2, h1, rfl, H'⟩; replace H := H.upd (c := rdr src pr (ts1)) H' rfl (.inl rfl); clear H'; rw [h1, Res.bind_ok] at hR; clear h1)
    repeat' ((conv => whnf); first | refine ztT ?_ | (refine ztB ?_ ?_ <;> intro _ <;> try (exfalso; omega)) | (refine ztA ?_; clear H; intro _ _ H _) | fail)
    (((conv => whnf); refine Cl.mkX (take_c k_name src pr (ts2) wb _ (H.base2 HB) X.lo X.tb X.len (H.atC 2 rfl) (by decide)) ?_ ?_; rotate_left; (rintro ch w9 ⟨e9, p9, q9, h9, rfl, H'⟩; exact ⟨e9, p9, q9, (by rw [hR, h9]; rfl), rfl, Hp.pan H H' (.inl rfl)⟩)); rintro _ w8 ⟨t3, ts3, h1, rfl, H'⟩; replace H := H.upd (c := rdr src pr (ts2)) H' rfl (.inl rfl); clear H'; rw [h1, Res.bind_ok] at hR; clear h1)
    repeat' ((conv => whnf); first | refine ztT ?_ | (refine ztB ?_ ?_ <;> intro _ <;> try (exfalso; omega)) | (refine ztA ?_; clear H; intro _ _ H _) | fail)
    (((conv => whnf); refine Cl.mkX (take_c s_comma src pr (ts3) wb _ (H.base2 HB) X.lo X.tb X.len (H.atC 2 rfl) (by decide)) ?_ ?_; rotate_left; (rintro ch w9 ⟨e9, p9, q9, h9, rfl, H'⟩; exact ⟨e9, p9, q9, (by rw [hR, h9]; rfl), rfl, Hp.pan H H' (.inl rfl)⟩)); rintro _ w8 ⟨t4, ts4, h1, rfl, H'⟩; replace H := H.upd (c := rdr src pr (ts3)) H' rfl (.inl rfl); clear H'; rw [h1, Res.bind_ok] at hR; clear h1)
    repeat' ((conv => whnf); first | refine ztT ?_ | (refine ztB ?_ ?_ <;> intro _ <;> try (exfalso; omega)) | (refine ztA ?_; clear H; intro _ _ H _) | fail)
    have hfix : ∀ w', Hp (· = pr) w w' [bk p7 74 (ET.enc (.mk (6) (0) 0 (t1.text) (t3.text) none 0 [])), bk p6 74 T.t74.zero.cells.toList, rdr src pr (ts4)] → Hp (· = pr) w w' [bk p7 74 (ET.enc (.mk (6) (0) 0 (t1.text) (t3.text) none 0 [])), bk p6 74 T.t74.zero.cells.toList, rdr src pr (ts4)] := fun _ h => h
    replace H := hfix _ H
    clear hfix
    replace H := Hp.nil (Hp.trs0 H) ET.enc 6 74
    refine Lp.g0 T.ok (σ := Nat × Option Addr × Nat × List ET × List Tk) (fun q => [(38, .int .i64 (q.1 : Int)), (37, .int .i64 (3 : Int)), (7, .pointer (some ⟨p7, 0, none⟩)), (6, .pointer (some ⟨p6, 0, none⟩)), (2, .int .i64 (d : Int)), (0, .pointer (some ⟨pr, 0, none⟩))])
      (fun q w' => R = (kidsP F d 3 (3 - q.1) (ET.es q.2.2.2.1) q.2.2.2.2).bind (fun l ts5 => .ok (.mk (6) (0) 0 (t1.text) (t3.text) l) ts5) ∧ q.1 ≤ 3 ∧ q.2.2.2.1.length = q.1 ∧ Hp (· = pr) w w' [qu ET.enc 6 74 q.2.1 q.2.2.1 q.2.2.2.1, trs q.2.2.2.1, bk p7 74 (ET.enc (.mk (6) (0) 0 (t1.text) (t3.text) q.2.1 q.2.2.1 q.2.2.2.1)), bk p6 74 T.t74.zero.cells.toList, rdr src pr q.2.2.2.2]) (fun q _ => 3 - q.1) (0, none, 0, [], ts4) rfl ⟨rfl, rfl, rfl, rfl, rfl, rfl, trivial⟩ ⟨hR, Nat.zero_le _, rfl, H⟩ ?_
    clear H hR
    rintro ⟨i, A, c, l, ts⟩ w5 ⟨hR, hi, hli, H⟩
    simp only at hR hi hli H ⊢
    by_cases hin : i < 3
    case neg =>
      have hi : i = 3 := by omega
      subst hi
      replace hR : R = ((takeP s_rp ts).bind fun _ ts1 => .ok (ET.es l) ts1).bind (fun l ts5 => .ok (.mk (6) (0) 0 (t1.text) (t3.text) l) ts5) := hR
      rw [Res.bind_assoc] at hR
      repeat' ((conv => whnf); first | refine ztT ?_ | (refine ztB ?_ ?_ <;> intro _ <;> try (exfalso; omega)) | (refine ztA ?_; clear H; intro _ _ H _) | fail)
      (((conv => whnf); refine Cl.mkX (take_c s_rp src pr (ts) wb _ (H.base2 HB) X.lo X.tb X.len (H.atC 4 rfl) (by decide)) ?_ ?_; rotate_left; (rintro ch w9 ⟨e9, p9, q9, h9, rfl, H'⟩; exact ⟨e9, p9, q9, (by rw [hR, h9]; rfl), rfl, Hp.pan H H' (.inl rfl)⟩)); rintro _ w8 ⟨t9, ts9, h1, rfl, H'⟩; replace H := H.upd (c := rdr src pr (ts)) H' rfl (.inl rfl); clear H'; rw [h1, Res.bind_ok] at hR; clear h1)
      repeat' ((conv => whnf); first | refine ztT ?_ | (refine ztB ?_ ?_ <;> intro _ <;> try (exfalso; omega)) | (refine ztA ?_; clear H; intro _ _ H _) | fail)
      exact ⟨.mk (6) (0) 0 (t1.text) (t3.text) A c l, ts9, hR, et_v rfl, Hp.trsN (6) (0) 0 (t1.text) (t3.text) (H.sel [0, 0, 2] rfl)⟩
    have hni : 3 - i = (3 - (i + 1)) + 1 := by omega
    rw [hni] at hR
    simp only [kidsP] at hR
    by_cases hi0 : i = 0
    · rw [if_neg (by omega), Res.bind_ok, Res.bind_assoc] at hR
      repeat' ((conv => whnf); first | refine ztT ?_ | (refine ztB ?_ ?_ <;> intro _ <;> try (exfalso; omega)) | (refine ztA ?_; clear H; intro _ _ H _) | fail)
      all_goals first | (exfalso; omega) | skip
      (conv => whnf)
      refine Dr.chX T.ok mixed [0, 1, 2, 3, 7] [4, 5, 6, 8] (by kernel_rfl) rfl rfl (fun w' => Blk w' p7 74 (ET.enc (.mk (6) (0) 0 (t1.text) (t3.text) A c l))) (PanX R pr w) (fun ch F' w' hds h => by (conv => whnf); rw [show F'.ds = [] from hds]; exact h) (fun w1 eT _ => ?_)
      replace H := H.ext eT
      repeat' ((conv => whnf); refine QLd1.own (fun _ hw => hw) ?_)
      (conv => whnf)
      refine ⟨H.blk 2 rfl, ?_⟩
      ((conv => whnf); refine Cl.mkX (C.expr 0 d (ts) _ (by omega) hd (H.base2 HB) (H.atC 4 rfl) (Res.bind_out (by rw [← hR]; exact hne))) ?_ ?_; rotate_left; (rintro ch w9 ⟨e9, p9, q9, h9, rfl, H'⟩; exact ⟨e9, p9, q9, (by rw [hR, h9]; rfl), rfl, Hp.pan H H' (.inl rfl)⟩))
      rintro _ w3 ⟨⟨kd, o, n, nm, cb, A2, c2, l2⟩, ts2, h2, rfl, H'⟩
      replace H := H.updn (c := rdr src pr (ts)) (Hp.swap H') rfl (.inl rfl) (.inl rfl)
      clear H'
      rw [h2, Res.bind_ok] at hR
      (conv => whnf)
      refine ⟨H.blk 3 rfl, ?_⟩
      refine Sm.lith (cs := ET.enc (.mk kd o n nm cb A2 c2 l2)) H T.ok (fun p5 w4 H _ => ?_)
      (conv => whnf)
      refine ⟨H.blk 4 rfl, ?_⟩
      refine Sm.ap1 (enc := ET.enc) (.mk kd o n nm cb A2 c2 l2) H T.ok ?_ ?_ (fun A' c' w6 H => ?_)
      · show (l.length + 1) * 80 ≤ _; omega
      · omega
      simp only [List.cons_append, List.nil_append] at H
      (conv => whnf)
      refine ⟨H.blk 3 rfl, ?_⟩
      repeat' ((conv => whnf); first | refine ztT ?_ | (refine ztB ?_ ?_ <;> intro _ <;> try (exfalso; omega)) | (refine ztA ?_; clear H; intro _ _ H _) | fail)
      refine ⟨(i + 1, A', c', l ++ [.mk kd o n nm cb A2 c2 l2], ts2), ⟨at_int (m := ((i + 1 : Nat) : Int)) rfl (w64 (by simp) (by omega) (by omega)), rfl, rfl, rfl, rfl, rfl, trivial⟩, rfl, ⟨?_, by simp only; omega, by simp only [List.length_append, List.length_cons, List.length_nil]; omega, ?_⟩, by simp only; omega⟩
      · rw [hR, ET.es_app]; rfl
      · replace H := Hp.swap (Hp.trsS (H.sel [0, 1, 0, 0, 0, 0] rfl))
        have hl1 : (l ++ [ET.mk kd o n nm cb A2 c2 l2]).length = l.length + 1 := by simp
        simp only [ET.enc, hl1]
        exact H
    · rw [if_pos (by omega)] at hR
      replace hR : R = (takeP s_comma ts).bind fun _ ts1 => (F.expr 0 d ts1).bind fun e ts2 => (kidsP F d 3 (3 - (i + 1)) (ET.es l ++ [e]) ts2).bind (fun l ts5 => .ok (.mk (6) (0) 0 (t1.text) (t3.text) l) ts5) := by
        rw [hR]
        cases takeP s_comma ts with
        | out => rfl
        | err e p => rfl
        | ok a ts1 => simp only [Res.bind_ok, Res.bind_assoc]
      repeat' ((conv => whnf); first | refine ztT ?_ | (refine ztB ?_ ?_ <;> intro _ <;> try (exfalso; omega)) | (refine ztA ?_; clear H; intro _ _ H _) | fail)
      all_goals first | (exfalso; omega) | skip
      (((conv => whnf); refine Cl.mkX (take_c s_comma src pr (ts) wb _ (H.base2 HB) X.lo X.tb X.len (H.atC 4 rfl) (by decide)) ?_ ?_; rotate_left; (rintro ch w9 ⟨e9, p9, q9, h9, rfl, H'⟩; exact ⟨e9, p9, q9, (by rw [hR, h9]; rfl), rfl, Hp.pan H H' (.inl rfl)⟩)); rintro _ w8 ⟨t9, ts9, h1, rfl, H'⟩; replace H := H.upd (c := rdr src pr (ts)) H' rfl (.inl rfl); clear H'; rw [h1, Res.bind_ok] at hR; clear h1)
      repeat' ((conv => whnf); first | refine ztT ?_ | (refine ztB ?_ ?_ <;> intro _ <;> try (exfalso; omega)) | (refine ztA ?_; clear H; intro _ _ H _) | fail)
      (conv => whnf)
      refine Dr.chX T.ok mixed [0, 1, 2, 3, 7] [4, 5, 6, 8] (by kernel_rfl) rfl rfl (fun w' => Blk w' p7 74 (ET.enc (.mk (6) (0) 0 (t1.text) (t3.text) A c l))) (PanX R pr w) (fun ch F' w' hds h => by (conv => whnf); rw [show F'.ds = [] from hds]; exact h) (fun w1 eT _ => ?_)
      replace H := H.ext eT
      repeat' ((conv => whnf); refine QLd1.own (fun _ hw => hw) ?_)
      (conv => whnf)
      refine ⟨H.blk 2 rfl, ?_⟩
      ((conv => whnf); refine Cl.mkX (C.expr 0 d (ts9) _ (by omega) hd (H.base2 HB) (H.atC 4 rfl) (Res.bind_out (by rw [← hR]; exact hne))) ?_ ?_; rotate_left; (rintro ch w9 ⟨e9, p9, q9, h9, rfl, H'⟩; exact ⟨e9, p9, q9, (by rw [hR, h9]; rfl), rfl, Hp.pan H H' (.inl rfl)⟩))
      rintro _ w3 ⟨⟨kd, o, n, nm, cb, A2, c2, l2⟩, ts2, h2, rfl, H'⟩
      replace H := H.updn (c := rdr src pr (ts9)) (Hp.swap H') rfl (.inl rfl) (.inl rfl)
      clear H'
      rw [h2, Res.bind_ok] at hR
      (conv => whnf)
      refine ⟨H.blk 3 rfl, ?_⟩
      refine Sm.lith (cs := ET.enc (.mk kd o n nm cb A2 c2 l2)) H T.ok (fun p5 w4 H _ => ?_)
      (conv => whnf)
      refine ⟨H.blk 4 rfl, ?_⟩
      refine Sm.ap1 (enc := ET.enc) (.mk kd o n nm cb A2 c2 l2) H T.ok ?_ ?_ (fun A' c' w6 H => ?_)
      · show (l.length + 1) * 80 ≤ _; omega
      · omega
      simp only [List.cons_append, List.nil_append] at H
      (conv => whnf)
      refine ⟨H.blk 3 rfl, ?_⟩
      repeat' ((conv => whnf); first | refine ztT ?_ | (refine ztB ?_ ?_ <;> intro _ <;> try (exfalso; omega)) | (refine ztA ?_; clear H; intro _ _ H _) | fail)
      refine ⟨(i + 1, A', c', l ++ [.mk kd o n nm cb A2 c2 l2], ts2), ⟨at_int (m := ((i + 1 : Nat) : Int)) rfl (w64 (by simp) (by omega) (by omega)), rfl, rfl, rfl, rfl, rfl, trivial⟩, rfl, ⟨?_, by simp only; omega, by simp only [List.length_append, List.length_cons, List.length_nil]; omega, ?_⟩, by simp only; omega⟩
      · rw [hR, ET.es_app]; rfl
      · replace H := Hp.swap (Hp.trsS (H.sel [0, 1, 0, 0, 0, 0] rfl))
        have hl1 : (l ++ [ET.mk kd o n nm cb A2 c2 l2]).length = l.length + 1 := by simp
        simp only [ET.enc, hl1]
        exact H
  · rw [if_neg hk1] at hR
    by_cases hk2 : k = k_each
    · rw [if_pos hk2] at hR
      repeat' ((conv => whnf); first | refine ztT ?_ | (refine ztB ?_ ?_ <;> intro _ <;> try (exfalso; omega)) | (refine ztA ?_; clear H; intro _ _ H _) | fail)
      (((conv => whnf); refine Cl.mkX (take_c k_name src pr (ts) wb _ (H.base2 HB) X.lo X.tb X.len (H.atC 2 rfl) (by decide)) ?_ ?_; rotate_left; (rintro ch w9 ⟨e9, p9, q9, h9, rfl, H'⟩; exact ⟨e9, p9, q9, (by rw [hR, h9]; rfl), rfl, Hp.pan H H' (.inl rfl)⟩)); rintro _ w8 ⟨t1, ts1, h1, rfl, H'⟩; replace H := H.upd (c := rdr src pr (ts)) H' rfl (.inl rfl); clear H'; rw [h1, Res.bind_ok] at hR; clear h1)
      repeat' ((conv => whnf); first | refine ztT ?_ | (refine ztB ?_ ?_ <;> intro _ <;> try (exfalso; omega)) | (refine ztA ?_; clear H; intro _ _ H _) | fail)
      (((conv => whnf); refine Cl.mkX (take_c s_comma src pr (ts1) wb _ (H.base2 HB) X.lo X.tb X.len (H.atC 2 rfl) (by decide)) ?_ ?_; rotate_left; (rintro ch w9 ⟨e9, p9, q9, h9, rfl, H'⟩; exact ⟨e9, p9, q9, (by rw [hR, h9]; rfl), rfl, Hp.pan H H' (.inl rfl)⟩)); rintro _ w8 ⟨t2, ts2, h1, rfl, H'⟩; replace H := H.upd (c := rdr src pr (ts1)) H' rfl (.inl rfl); clear H'; rw [h1, Res.bind_ok] at hR; clear h1)
      repeat' ((conv => whnf); first | refine ztT ?_ | (refine ztB ?_ ?_ <;> intro _ <;> try (exfalso; omega)) | (refine ztA ?_; clear H; intro _ _ H _) | fail)
      have hfix : ∀ w', Hp (· = pr) w w' [bk p7 74 (ET.enc (.mk (7) (0) 0 (t1.text) (([] : Bs)) none 0 [])), bk p6 74 T.t74.zero.cells.toList, rdr src pr (ts2)] → Hp (· = pr) w w' [bk p7 74 (ET.enc (.mk (7) (0) 0 (t1.text) (([] : Bs)) none 0 [])), bk p6 74 T.t74.zero.cells.toList, rdr src pr (ts2)] := fun _ h => h
      replace H := hfix _ H
      clear hfix
      replace H := Hp.nil (Hp.trs0 H) ET.enc 6 74
      refine Lp.g0 T.ok (σ := Nat × Option Addr × Nat × List ET × List Tk) (fun q => [(38, .int .i64 (q.1 : Int)), (37, .int .i64 (2 : Int)), (7, .pointer (some ⟨p7, 0, none⟩)), (6, .pointer (some ⟨p6, 0, none⟩)), (2, .int .i64 (d : Int)), (0, .pointer (some ⟨pr, 0, none⟩))])
        (fun q w' => R = (kidsP F d 2 (2 - q.1) (ET.es q.2.2.2.1) q.2.2.2.2).bind (fun l ts5 => .ok (.mk (7) (0) 0 (t1.text) (([] : Bs)) l) ts5) ∧ q.1 ≤ 2 ∧ q.2.2.2.1.length = q.1 ∧ Hp (· = pr) w w' [qu ET.enc 6 74 q.2.1 q.2.2.1 q.2.2.2.1, trs q.2.2.2.1, bk p7 74 (ET.enc (.mk (7) (0) 0 (t1.text) (([] : Bs)) q.2.1 q.2.2.1 q.2.2.2.1)), bk p6 74 T.t74.zero.cells.toList, rdr src pr q.2.2.2.2]) (fun q _ => 2 - q.1) (0, none, 0, [], ts2) rfl ⟨rfl, rfl, rfl, rfl, rfl, rfl, trivial⟩ ⟨hR, Nat.zero_le _, rfl, H⟩ ?_
      clear H hR
      rintro ⟨i, A, c, l, ts⟩ w5 ⟨hR, hi, hli, H⟩
      simp only at hR hi hli H ⊢
      by_cases hin : i < 2
      case neg =>
        have hi : i = 2 := by omega
        subst hi
        replace hR : R = ((takeP s_rp ts).bind fun _ ts1 => .ok (ET.es l) ts1).bind (fun l ts5 => .ok (.mk (7) (0) 0 (t1.text) (([] : Bs)) l) ts5) := hR
        rw [Res.bind_assoc] at hR
        repeat' ((conv => whnf); first | refine ztT ?_ | (refine ztB ?_ ?_ <;> intro _ <;> try (exfalso; omega)) | (refine ztA ?_; clear H; intro _ _ H _) | fail)
        (((conv => whnf); refine Cl.mkX (take_c s_rp src pr (ts) wb _ (H.base2 HB) X.lo X.tb X.len (H.atC 4 rfl) (by decide)) ?_ ?_; rotate_left; (rintro ch w9 ⟨e9, p9, q9, h9, rfl, H'⟩; exact ⟨e9, p9, q9, (by rw [hR, h9]; rfl), rfl, Hp.pan H H' (.inl rfl)⟩)); rintro _ w8 ⟨t9, ts9, h1, rfl, H'⟩; replace H := H.upd (c := rdr src pr (ts)) H' rfl (.inl rfl); clear H'; rw [h1, Res.bind_ok] at hR; clear h1)
        repeat' ((conv => whnf); first | refine ztT ?_ | (refine ztB ?_ ?_ <;> intro _ <;> try (exfalso; omega)) | (refine ztA ?_; clear H; intro _ _ H _) | fail)
        exact ⟨.mk (7) (0) 0 (t1.text) (([] : Bs)) A c l, ts9, hR, et_v rfl, Hp.trsN (7) (0) 0 (t1.text) (([] : Bs)) (H.sel [0, 0, 2] rfl)⟩
      have hni : 2 - i = (2 - (i + 1)) + 1 := by omega
      rw [hni] at hR
      simp only [kidsP] at hR
      by_cases hi0 : i = 0
      · rw [if_neg (by omega), Res.bind_ok, Res.bind_assoc] at hR
        repeat' ((conv => whnf); first | refine ztT ?_ | (refine ztB ?_ ?_ <;> intro _ <;> try (exfalso; omega)) | (refine ztA ?_; clear H; intro _ _ H _) | fail)
        all_goals first | (exfalso; omega) | skip
        (conv => whnf)
        refine Dr.chX T.ok mixed [0, 1, 2, 3, 7] [4, 5, 6, 8] (by kernel_rfl) rfl rfl (fun w' => Blk w' p7 74 (ET.enc (.mk (7) (0) 0 (t1.text) (([] : Bs)) A c l))) (PanX R pr w) (fun ch F' w' hds h => by (conv => whnf); rw [show F'.ds = [] from hds]; exact h) (fun w1 eT _ => ?_)
        replace H := H.ext eT
        repeat' ((conv => whnf); refine QLd1.own (fun _ hw => hw) ?_)
        (conv => whnf)
        refine ⟨H.blk 2 rfl, ?_⟩
        ((conv => whnf); refine Cl.mkX (C.expr 0 d (ts) _ (by omega) hd (H.base2 HB) (H.atC 4 rfl) (Res.bind_out (by rw [← hR]; exact hne))) ?_ ?_; rotate_left; (rintro ch w9 ⟨e9, p9, q9, h9, rfl, H'⟩; exact ⟨e9, p9, q9, (by rw [hR, h9]; rfl), rfl, Hp.pan H H' (.inl rfl)⟩))
        rintro _ w3 ⟨⟨kd, o, n, nm, cb, A2, c2, l2⟩, ts2, h2, rfl, H'⟩
        replace H := H.updn (c := rdr src pr (ts)) (Hp.swap H') rfl (.inl rfl) (.inl rfl)
        clear H'
        rw [h2, Res.bind_ok] at hR
        (conv => whnf)
        refine ⟨H.blk 3 rfl, ?_⟩
        refine Sm.lith (cs := ET.enc (.mk kd o n nm cb A2 c2 l2)) H T.ok (fun p5 w4 H _ => ?_)
        (conv => whnf)
        refine ⟨H.blk 4 rfl, ?_⟩
        refine Sm.ap1 (enc := ET.enc) (.mk kd o n nm cb A2 c2 l2) H T.ok ?_ ?_ (fun A' c' w6 H => ?_)
        · show (l.length + 1) * 80 ≤ _; omega
        · omega
        simp only [List.cons_append, List.nil_append] at H
        (conv => whnf)
        refine ⟨H.blk 3 rfl, ?_⟩
        repeat' ((conv => whnf); first | refine ztT ?_ | (refine ztB ?_ ?_ <;> intro _ <;> try (exfalso; omega)) | (refine ztA ?_; clear H; intro _ _ H _) | fail)
        refine ⟨(i + 1, A', c', l ++ [.mk kd o n nm cb A2 c2 l2], ts2), ⟨at_int (m := ((i + 1 : Nat) : Int)) rfl (w64 (by simp) (by omega) (by omega)), rfl, rfl, rfl, rfl, rfl, trivial⟩, rfl, ⟨?_, by simp only; omega, by simp only [List.length_append, List.length_cons, List.length_nil]; omega, ?_⟩, by simp only; omega⟩
        · rw [hR, ET.es_app]; rfl
        · replace H := Hp.swap (Hp.trsS (H.sel [0, 1, 0, 0, 0, 0] rfl))
          have hl1 : (l ++ [ET.mk kd o n nm cb A2 c2 l2]).length = l.length + 1 := by simp
          simp only [ET.enc, hl1]
          exact H
      · rw [if_pos (by omega)] at hR
        replace hR : R = (takeP s_comma ts).bind fun _ ts1 => (F.expr 0 d ts1).bind fun e ts2 => (kidsP F d 2 (2 - (i + 1)) (ET.es l ++ [e]) ts2).bind (fun l ts5 => .ok (.mk (7) (0) 0 (t1.text) (([] : Bs)) l) ts5) := by
          rw [hR]
          cases takeP s_comma ts with
          | out => rfl
          | err e p => rfl
          | ok a ts1 => simp only [Res.bind_ok, Res.bind_assoc]
        repeat' ((conv => whnf); first | refine ztT ?_ | (refine ztB ?_ ?_ <;> intro _ <;> try (exfalso; omega)) | (refine ztA ?_; clear H; intro _ _ H _) | fail)
        all_goals first | (exfalso; omega) | skip
        (((conv => whnf); refine Cl.mkX (take_c s_comma src pr (ts) wb _ (H.base2 HB) X.lo X.tb X.len (H.atC 4 rfl) (by decide)) ?_ ?_; rotate_left; (rintro ch w9 ⟨e9, p9, q9, h9, rfl, H'⟩; exact ⟨e9, p9, q9, (by rw [hR, h9]; rfl), rfl, Hp.pan H H' (.inl rfl)⟩)); rintro _ w8 ⟨t9, ts9, h1, rfl, H'⟩; replace H := H.upd (c := rdr src pr (ts)) H' rfl (.inl rfl); clear H'; rw [h1, Res.bind_ok] at hR; clear h1)
        repeat' ((conv => whnf); first | refine ztT ?_ | (refine ztB ?_ ?_ <;> intro _ <;> try (exfalso; omega)) | (refine ztA ?_; clear H; intro _ _ H _) | fail)
        (conv => whnf)
        refine Dr.chX T.ok mixed [0, 1, 2, 3, 7] [4, 5, 6, 8] (by kernel_rfl) rfl rfl (fun w' => Blk w' p7 74 (ET.enc (.mk (7) (0) 0 (t1.text) (([] : Bs)) A c l))) (PanX R pr w) (fun ch F' w' hds h => by (conv => whnf); rw [show F'.ds = [] from hds]; exact h) (fun w1 eT _ => ?_)
        replace H := H.ext eT
        repeat' ((conv => whnf); refine QLd1.own (fun _ hw => hw) ?_)
        (conv => whnf)
        refine ⟨H.blk 2 rfl, ?_⟩
        ((conv => whnf); refine Cl.mkX (C.expr 0 d (ts9) _ (by omega) hd (H.base2 HB) (H.atC 4 rfl) (Res.bind_out (by rw [← hR]; exact hne))) ?_ ?_; rotate_left; (rintro ch w9 ⟨e9, p9, q9, h9, rfl, H'⟩; exact ⟨e9, p9, q9, (by rw [hR, h9]; rfl), rfl, Hp.pan H H' (.inl rfl)⟩))
        rintro _ w3 ⟨⟨kd, o, n, nm, cb, A2, c2, l2⟩, ts2, h2, rfl, H'⟩
        replace H := H.updn (c := rdr src pr (ts9)) (Hp.swap H') rfl (.inl rfl) (.inl rfl)
        clear H'
        rw [h2, Res.bind_ok] at hR
        (conv => whnf)
        refine ⟨H.blk 3 rfl, ?_⟩
        refine Sm.lith (cs := ET.enc (.mk kd o n nm cb A2 c2 l2)) H T.ok (fun p5 w4 H _ => ?_)
        (conv => whnf)
        refine ⟨H.blk 4 rfl, ?_⟩
        refine Sm.ap1 (enc := ET.enc) (.mk kd o n nm cb A2 c2 l2) H T.ok ?_ ?_ (fun A' c' w6 H => ?_)
        · show (l.length + 1) * 80 ≤ _; omega
        · omega
        simp only [List.cons_append, List.nil_append] at H
        (conv => whnf)
        refine ⟨H.blk 3 rfl, ?_⟩
        repeat' ((conv => whnf); first | refine ztT ?_ | (refine ztB ?_ ?_ <;> intro _ <;> try (exfalso; omega)) | (refine ztA ?_; clear H; intro _ _ H _) | fail)
        refine ⟨(i + 1, A', c', l ++ [.mk kd o n nm cb A2 c2 l2], ts2), ⟨at_int (m := ((i + 1 : Nat) : Int)) rfl (w64 (by simp) (by omega) (by omega)), rfl, rfl, rfl, rfl, rfl, trivial⟩, rfl, ⟨?_, by simp only; omega, by simp only [List.length_append, List.length_cons, List.length_nil]; omega, ?_⟩, by simp only; omega⟩
        · rw [hR, ET.es_app]; rfl
        · replace H := Hp.swap (Hp.trsS (H.sel [0, 1, 0, 0, 0, 0] rfl))
          have hl1 : (l ++ [ET.mk kd o n nm cb A2 c2 l2]).length = l.length + 1 := by simp
          simp only [ET.enc, hl1]
          exact H
    · rw [if_neg hk2] at hR
      repeat' ((conv => whnf); first | refine ztT ?_ | (refine ztB ?_ ?_ <;> intro _ <;> try (exfalso; omega)) | (refine ztA ?_; clear H; intro _ _ H _) | fail)
      (((conv => whnf); refine Cl.mk (find_c k _ (X.tb.ext (H.base2 HB))) ?_); rintro _ _ ⟨rfl, hx⟩; replace H := H.ext hx; clear hx)
      repeat' ((conv => whnf); first | refine ztT ?_ | (refine ztB ?_ ?_ <;> intro _ <;> try (exfalso; omega)) | (refine ztA ?_; clear H; intro _ _ H _) | fail)
      have hfix : ∀ w', Hp (· = pr) w w' [bk p7 74 (ET.enc (.mk (4) (findOp k) 0 (([] : Bs)) (([] : Bs)) none 0 [])), bk p6 74 T.t74.zero.cells.toList, rdr src pr (ts)] → Hp (· = pr) w w' [bk p7 74 (ET.enc (.mk (4) (findOp k) 0 (([] : Bs)) (([] : Bs)) none 0 [])), bk p6 74 T.t74.zero.cells.toList, rdr src pr (ts)] := fun _ h => h
      replace H := hfix _ H
      clear hfix
      replace H := Hp.nil (Hp.trs0 H) ET.enc 6 74
      refine Lp.g0 T.ok (σ := Nat × Option Addr × Nat × List ET × List Tk) (fun q => [(38, .int .i64 (q.1 : Int)), (37, .int .i64 (2 : Int)), (7, .pointer (some ⟨p7, 0, none⟩)), (6, .pointer (some ⟨p6, 0, none⟩)), (2, .int .i64 (d : Int)), (0, .pointer (some ⟨pr, 0, none⟩))])
        (fun q w' => R = (kidsP F d 2 (2 - q.1) (ET.es q.2.2.2.1) q.2.2.2.2).bind (fun l ts5 => .ok (.mk (4) (findOp k) 0 (([] : Bs)) (([] : Bs)) l) ts5) ∧ q.1 ≤ 2 ∧ q.2.2.2.1.length = q.1 ∧ Hp (· = pr) w w' [qu ET.enc 6 74 q.2.1 q.2.2.1 q.2.2.2.1, trs q.2.2.2.1, bk p7 74 (ET.enc (.mk (4) (findOp k) 0 (([] : Bs)) (([] : Bs)) q.2.1 q.2.2.1 q.2.2.2.1)), bk p6 74 T.t74.zero.cells.toList, rdr src pr q.2.2.2.2]) (fun q _ => 2 - q.1) (0, none, 0, [], ts) rfl ⟨rfl, rfl, rfl, rfl, rfl, rfl, trivial⟩ ⟨hR, Nat.zero_le _, rfl, H⟩ ?_
      clear H hR
      rintro ⟨i, A, c, l, ts⟩ w5 ⟨hR, hi, hli, H⟩
      simp only at hR hi hli H ⊢
      by_cases hin : i < 2
      case neg =>
        have hi : i = 2 := by omega
        subst hi
        replace hR : R = ((takeP s_rp ts).bind fun _ ts1 => .ok (ET.es l) ts1).bind (fun l ts5 => .ok (.mk (4) (findOp k) 0 (([] : Bs)) (([] : Bs)) l) ts5) := hR
        rw [Res.bind_assoc] at hR
        repeat' ((conv => whnf); first | refine ztT ?_ | (refine ztB ?_ ?_ <;> intro _ <;> try (exfalso; omega)) | (refine ztA ?_; clear H; intro _ _ H _) | fail)
        (((conv => whnf); refine Cl.mkX (take_c s_rp src pr (ts) wb _ (H.base2 HB) X.lo X.tb X.len (H.atC 4 rfl) (by decide)) ?_ ?_; rotate_left; (rintro ch w9 ⟨e9, p9, q9, h9, rfl, H'⟩; exact ⟨e9, p9, q9, (by rw [hR, h9]; rfl), rfl, Hp.pan H H' (.inl rfl)⟩)); rintro _ w8 ⟨t9, ts9, h1, rfl, H'⟩; replace H := H.upd (c := rdr src pr (ts)) H' rfl (.inl rfl); clear H'; rw [h1, Res.bind_ok] at hR; clear h1)
        repeat' ((conv => whnf); first | refine ztT ?_ | (refine ztB ?_ ?_ <;> intro _ <;> try (exfalso; omega)) | (refine ztA ?_; clear H; intro _ _ H _) | fail)
        exact ⟨.mk (4) (findOp k) 0 (([] : Bs)) (([] : Bs)) A c l, ts9, hR, et_v rfl, Hp.trsN (4) (findOp k) 0 (([] : Bs)) (([] : Bs)) (H.sel [0, 0, 2] rfl)⟩
      have hni : 2 - i = (2 - (i + 1)) + 1 := by omega
      rw [hni] at hR
      simp only [kidsP] at hR
      by_cases hi0 : i = 0
      · rw [if_neg (by omega), Res.bind_ok, Res.bind_assoc] at hR
        repeat' ((conv => whnf); first | refine ztT ?_ | (refine ztB ?_ ?_ <;> intro _ <;> try (exfalso; omega)) | (refine ztA ?_; clear H; intro _ _ H _) | fail)
        all_goals first | (exfalso; omega) | skip
        (conv => whnf)
        refine Dr.chX T.ok mixed [0, 1, 2, 3, 7] [4, 5, 6, 8] (by kernel_rfl) rfl rfl (fun w' => Blk w' p7 74 (ET.enc (.mk (4) (findOp k) 0 (([] : Bs)) (([] : Bs)) A c l))) (PanX R pr w) (fun ch F' w' hds h => by (conv => whnf); rw [show F'.ds = [] from hds]; exact h) (fun w1 eT _ => ?_)
        replace H := H.ext eT
        repeat' ((conv => whnf); refine QLd1.own (fun _ hw => hw) ?_)
        (conv => whnf)
        refine ⟨H.blk 2 rfl, ?_⟩
        ((conv => whnf); refine Cl.mkX (C.expr 0 d (ts) _ (by omega) hd (H.base2 HB) (H.atC 4 rfl) (Res.bind_out (by rw [← hR]; exact hne))) ?_ ?_; rotate_left; (rintro ch w9 ⟨e9, p9, q9, h9, rfl, H'⟩; exact ⟨e9, p9, q9, (by rw [hR, h9]; rfl), rfl, Hp.pan H H' (.inl rfl)⟩))
        rintro _ w3 ⟨⟨kd, o, n, nm, cb, A2, c2, l2⟩, ts2, h2, rfl, H'⟩
        replace H := H.updn (c := rdr src pr (ts)) (Hp.swap H') rfl (.inl rfl) (.inl rfl)
        clear H'
        rw [h2, Res.bind_ok] at hR
        (conv => whnf)
        refine ⟨H.blk 3 rfl, ?_⟩
        refine Sm.lith (cs := ET.enc (.mk kd o n nm cb A2 c2 l2)) H T.ok (fun p5 w4 H _ => ?_)
        (conv => whnf)
        refine ⟨H.blk 4 rfl, ?_⟩
        refine Sm.ap1 (enc := ET.enc) (.mk kd o n nm cb A2 c2 l2) H T.ok ?_ ?_ (fun A' c' w6 H => ?_)
        · show (l.length + 1) * 80 ≤ _; omega
        · omega
        simp only [List.cons_append, List.nil_append] at H
        (conv => whnf)
        refine ⟨H.blk 3 rfl, ?_⟩
        repeat' ((conv => whnf); first | refine ztT ?_ | (refine ztB ?_ ?_ <;> intro _ <;> try (exfalso; omega)) | (refine ztA ?_; clear H; intro _ _ H _) | fail)
        refine ⟨(i + 1, A', c', l ++ [.mk kd o n nm cb A2 c2 l2], ts2), ⟨at_int (m := ((i + 1 : Nat) : Int)) rfl (w64 (by simp) (by omega) (by omega)), rfl, rfl, rfl, rfl, rfl, trivial⟩, rfl, ⟨?_, by simp only; omega, by simp only [List.length_append, List.length_cons, List.length_nil]; omega, ?_⟩, by simp only; omega⟩
        · rw [hR, ET.es_app]; rfl
        · replace H := Hp.swap (Hp.trsS (H.sel [0, 1, 0, 0, 0, 0] rfl))
          have hl1 : (l ++ [ET.mk kd o n nm cb A2 c2 l2]).length = l.length + 1 := by simp
          simp only [ET.enc, hl1]
          exact H
      · rw [if_pos (by omega)] at hR
        replace hR : R = (takeP s_comma ts).bind fun _ ts1 => (F.expr 0 d ts1).bind fun e ts2 => (kidsP F d 2 (2 - (i + 1)) (ET.es l ++ [e]) ts2).bind (fun l ts5 => .ok (.mk (4) (findOp k) 0 (([] : Bs)) (([] : Bs)) l) ts5) := by
          rw [hR]
          cases takeP s_comma ts with
          | out => rfl
          | err e p => rfl
          | ok a ts1 => simp only [Res.bind_ok, Res.bind_assoc]
        repeat' ((conv => whnf); first | refine ztT ?_ | (refine ztB ?_ ?_ <;> intro _ <;> try (exfalso; omega)) | (refine ztA ?_; clear H; intro _ _ H _) | fail)
        all_goals first | (exfalso; omega) | skip
        (((conv => whnf); refine Cl.mkX (take_c s_comma src pr (ts) wb _ (H.base2 HB) X.lo X.tb X.len (H.atC 4 rfl) (by decide)) ?_ ?_; rotate_left; (rintro ch w9 ⟨e9, p9, q9, h9, rfl, H'⟩; exact ⟨e9, p9, q9, (by rw [hR, h9]; rfl), rfl, Hp.pan H H' (.inl rfl)⟩)); rintro _ w8 ⟨t9, ts9, h1, rfl, H'⟩; replace H := H.upd (c := rdr src pr (ts)) H' rfl (.inl rfl); clear H'; rw [h1, Res.bind_ok] at hR; clear h1)
        repeat' ((conv => whnf); first | refine ztT ?_ | (refine ztB ?_ ?_ <;> intro _ <;> try (exfalso; omega)) | (refine ztA ?_; clear H; intro _ _ H _) | fail)
        (conv => whnf)
        refine Dr.chX T.ok mixed [0, 1, 2, 3, 7] [4, 5, 6, 8] (by kernel_rfl) rfl rfl (fun w' => Blk w' p7 74 (ET.enc (.mk (4) (findOp k) 0 (([] : Bs)) (([] : Bs)) A c l))) (PanX R pr w) (fun ch F' w' hds h => by (conv => whnf); rw [show F'.ds = [] from hds]; exact h) (fun w1 eT _ => ?_)
        replace H := H.ext eT
        repeat' ((conv => whnf); refine QLd1.own (fun _ hw => hw) ?_)
        (conv => whnf)
        refine ⟨H.blk 2 rfl, ?_⟩
        ((conv => whnf); refine Cl.mkX (C.expr 0 d (ts9) _ (by omega) hd (H.base2 HB) (H.atC 4 rfl) (Res.bind_out (by rw [← hR]; exact hne))) ?_ ?_; rotate_left; (rintro ch w9 ⟨e9, p9, q9, h9, rfl, H'⟩; exact ⟨e9, p9, q9, (by rw [hR, h9]; rfl), rfl, Hp.pan H H' (.inl rfl)⟩))
        rintro _ w3 ⟨⟨kd, o, n, nm, cb, A2, c2, l2⟩, ts2, h2, rfl, H'⟩
        replace H := H.updn (c := rdr src pr (ts9)) (Hp.swap H') rfl (.inl rfl) (.inl rfl)
        clear H'
        rw [h2, Res.bind_ok] at hR
        (conv => whnf)
        refine ⟨H.blk 3 rfl, ?_⟩
        refine Sm.lith (cs := ET.enc (.mk kd o n nm cb A2 c2 l2)) H T.ok (fun p5 w4 H _ => ?_)
        (conv => whnf)
        refine ⟨H.blk 4 rfl, ?_⟩
        refine Sm.ap1 (enc := ET.enc) (.mk kd o n nm cb A2 c2 l2) H T.ok ?_ ?_ (fun A' c' w6 H => ?_)
        · show (l.length + 1) * 80 ≤ _; omega
        · omega
        simp only [List.cons_append, List.nil_append] at H
        (conv => whnf)
        refine ⟨H.blk 3 rfl, ?_⟩
        repeat' ((conv => whnf); first | refine ztT ?_ | (refine ztB ?_ ?_ <;> intro _ <;> try (exfalso; omega)) | (refine ztA ?_; clear H; intro _ _ H _) | fail)
        refine ⟨(i + 1, A', c', l ++ [.mk kd o n nm cb A2 c2 l2], ts2), ⟨at_int (m := ((i + 1 : Nat) : Int)) rfl (w64 (by simp) (by omega) (by omega)), rfl, rfl, rfl, rfl, rfl, trivial⟩, rfl, ⟨?_, by simp only; omega, by simp only [List.length_append, List.length_cons, List.length_nil]; omega, ?_⟩, by simp only; omega⟩
        · rw [hR, ET.es_app]; rfl
        · replace H := Hp.swap (Hp.trsS (H.sel [0, 1, 0, 0, 0, 0] rfl))
          have hl1 : (l ++ [ET.mk kd o n nm cb A2 c2 l2]).length = l.length + 1 := by simp
          simp only [ET.enc, hl1]
          exact H
end
end Go.Proofs.YtfnjodpehomgfaaGreatDoor
namespace Go.Proofs.YtfnjodpehomgfaaGreatDoor
open Go Go.Sh Go.Tx
attribute [local irreducible] Blk Ext RdS
theorem deep_le {d : Nat} {ts : List Tk} (h : deepP d ts = .ok () ts) : d ≤ 40 := by
  unfold deepP at h
  split at h
  · simp at h
  · omega
section
variable {src : Bs} {pr : Nat} {wb : World} {F : PF} (X : Txt src pr wb) (C : Con src pr wb F)
include X C
set_option maxHeartbeats 4000000 in
theorem unary_c (d : Nat) (ts : List Tk) (w : World) (hd : d ≤ 41) (hwb : Ext wb w) (h : Rdr src pr ts w) (hne : unaryP F d ts ≠ .out) :
    Cl Tryz.prog 130 #[.pointer (some ⟨pr, 0, none⟩), .int .i64 (d : Int)] w (OkE src pr (unaryP F d ts) w) (PanX (unaryP F d ts) pr w) := by
  have HB := X.ok hwb
  have hwd : IntKind.i64.wrap ((d : Int) + 1) = ((d + 1 : Nat) : Int) := w64 rfl (by omega) (by omega)
  obtain ⟨R, hR⟩ : ∃ R, R = unaryP F d ts := ⟨_, rfl⟩
  rw [← hR] at hne ⊢
  unfold unaryP at hR
  refine calls_ex (args := [.pointer (some ⟨pr, 0, none⟩), .int .i64 (d : Int)]) T.ok Tryz.func130 rfl rfl rfl rfl ?_
  have H := Hp.start (S := (· = pr)) (rdr_ok h) (fun k hk => hk)
  clear h
  refine Sq.mk ?_
  ((conv => whnf); refine Al.hp H ?_; clear H; intro p4 _ H _)
  (obtain ⟨nx, t0, r0, rfl, hn0, hr0, hb0⟩ := H.atC (c := rdr src pr ts) 1 rfl; replace H := Hp.ofR H hb0; clear hb0)
  rw [curK_cons] at hR
  by_cases hs : t0.kind ≠ s_minus ∧ t0.kind ≠ s_bang
  · rw [if_pos hs] at hR
    obtain ⟨hs1, hs2⟩ := hs
    replace hs1 : ¬ t0.kind = s_minus := hs1
    replace hs2 : ¬ t0.kind = s_bang := hs2
    repeat' ((conv => whnf); first | refine ztT ?_ | (refine ztB ?_ ?_ <;> intro _ <;> try (exfalso; omega)) | (refine ztA ?_; clear H; intro _ _ H _) | fail)
    (replace H := Hp.toR H hn0 hr0)
    (conv => whnf)
    refine Cl.mkX (C.primary d _ _ hd (H.base2 HB) (H.atC 1 rfl) (by rw [← hR]; exact hne)) ?_ ?_
    · rintro _ w2 ⟨⟨kd, o, n, nm, cb, A, c, l⟩, ts', h1, rfl, H'⟩
      replace H := H.updn (c := rdr src pr (t0 :: r0)) (Hp.swap H') rfl (.inl rfl) (.inl rfl)
      clear H'
      repeat' ((conv => whnf); first | refine ztT ?_ | (refine ztB ?_ ?_ <;> intro _ <;> try (exfalso; omega)) | (refine ztA ?_; clear H; intro _ _ H _) | fail)
      exact ⟨.mk kd o n nm cb A c l, ts', by rw [hR, h1], et_v rfl, H.sel [0, 1] rfl⟩
    · rintro ch w2 ⟨e, p, q, h1, rfl, H'⟩
      exact ⟨e, p, q, by rw [hR, h1], rfl, Hp.pan H H' (.inl rfl)⟩
  rw [if_neg hs] at hR
  have hend : t0.kind ≠ k_end := fun e => hs (by rw [e]; decide)
  have hfin : ∀ (w' : World) (p5 : Nat) (kk : Int) (e : ET) (ts2 : List Tk), Hp (· = pr) w w' [bk p5 74 (ET.enc e), trs [e], rdr src pr ts2] → Hp (· = pr) w w' [trs [.mk kk 0 0 [] [] (some ⟨p5, 0, none⟩) 1 [e]], rdr src pr ts2] := fun w' p5 kk e ts2 H => by
    have H1 : Hp (· = pr) w w' [bk p5 74 ([e].flatMap ET.enc), trs [e], rdr src pr ts2] := by simpa using H
    exact Hp.trsN kk 0 0 [] [] (Hp.bq (sz := 6) H1 (fun z _ => ET.enc_len z))
  have hun := fun ts w => C.unary (d + 1) ts w
  rw [← hwd] at hun
  by_cases hm : t0.kind = s_minus
  · have hbm : (bs t0.kind == (⟨#[45]⟩ : ByteArray)) = true := by rw [hm]; exact (bs_eq s_minus s_minus).trans (by simp)
    have hcm : (t0.kind == s_minus) = true := by rw [hm]; simp
    repeat' ((conv => whnf); first | refine ztT ?_ | (refine ztB ?_ ?_ <;> intro _ <;> try (exfalso; omega)) | (refine ztA ?_; clear H; intro _ _ H _) | fail)
    (replace H := Hp.toR H hn0 hr0)
    (((conv => whnf); refine Cl.mkX (deep_c _ src pr (t0 :: r0) (d + 1) hwd _ (H.atC 1 rfl)) ?_ ?_; rotate_left; (rintro ch w9 ⟨e9, p9, q9, h9, rfl, H'⟩; exact ⟨e9, p9, q9, (by rw [hR, h9]; rfl), rfl, Hp.pan H H' (.inl rfl)⟩)); rintro _ w8 ⟨h1, ex⟩; replace H := H.ext ex; clear ex; have hd40 := deep_le h1; rw [h1, Res.bind_ok] at hR; clear h1)
    have hd41 : d + 1 ≤ 41 := by omega
    replace hR : R = (stepP (t0.kind == s_minus) (t0 :: r0)).bind fun _ ts1 => if t0.kind = s_minus ∧ curK ts1 = k_number then (stepP false ts1).bind fun _ ts2 => .ok (.mk 0 0 (curT ts1).n [] [] []) ts2 else (F.unary (d + 1) ts1).bind fun e ts2 => .ok (.mk (if t0.kind = s_bang then 3 else 2) 0 0 [] [] [e]) ts2 := hR
    rw [show stepP (t0.kind == s_minus) (t0 :: r0) = stepP (bs t0.kind == (⟨#[45]⟩ : ByteArray)) (t0 :: r0) by rw [hcm, hbm]] at hR
    repeat' ((conv => whnf); first | refine ztT ?_ | (refine ztB ?_ ?_ <;> intro _ <;> try (exfalso; omega)) | (refine ztA ?_; clear H; intro _ _ H _) | fail)
    (((conv => whnf); refine Cl.mkX (step_c _ src pr (t0 :: r0) wb _ (H.base2 HB) X.lo X.tb X.len (H.atC 1 rfl) hend) ?_ ?_; rotate_left; (rintro ch w9 ⟨e9, p9, q9, h9, rfl, H'⟩; exact ⟨e9, p9, q9, (by rw [hR, h9]; rfl), rfl, Hp.pan H H' (.inl rfl)⟩)); rintro _ w8 ⟨ts1, h1, H'⟩; replace H := H.upd (c := rdr src pr (t0 :: r0)) H' rfl (.inl rfl); clear H'; rw [h1, Res.bind_ok] at hR; clear h1)
    by_cases hn : curK ts1 = k_number
    · rw [if_pos (show t0.kind = s_minus ∧ curK ts1 = k_number from ⟨hm, hn⟩)] at hR
      (obtain ⟨nx1, t1, r1, rfl, hn1, hr1, hb0⟩ := H.atC (c := rdr src pr ts1) 1 rfl; replace H := Hp.ofR H hb0; clear hb0)
      replace hn : t1.kind = k_number := hn
      repeat' ((conv => whnf); first | refine ztT ?_ | (refine ztB ?_ ?_ <;> intro _ <;> try (exfalso; omega)) | (refine ztA ?_; clear H; intro _ _ H _) | fail)
      (replace H := Hp.toR H hn1 hr1)
      (((conv => whnf); refine Cl.mkX (step_c _ src pr (t1 :: r1) wb _ (H.base2 HB) X.lo X.tb X.len (H.atC 1 rfl) (by rw [curK_cons, hn]; decide)) ?_ ?_; rotate_left; (rintro ch w9 ⟨e9, p9, q9, h9, rfl, H'⟩; exact ⟨e9, p9, q9, (by rw [hR, h9]; rfl), rfl, Hp.pan H H' (.inl rfl)⟩)); rintro _ w8 ⟨ts2, h1, H'⟩; replace H := H.upd (c := rdr src pr (t1 :: r1)) H' rfl (.inl rfl); clear H'; rw [h1, Res.bind_ok] at hR; clear h1)
      repeat' ((conv => whnf); first | refine ztT ?_ | (refine ztB ?_ ?_ <;> intro _ <;> try (exfalso; omega)) | (refine ztA ?_; clear H; intro _ _ H _) | fail)
      exact ⟨.mk 0 0 t1.n [] [] none 0 [], ts2, hR, et_v rfl, Hp.trsZ 0 0 t1.n [] [] (H.sel [1] rfl)⟩
    · rw [if_neg (show ¬ (t0.kind = s_minus ∧ curK ts1 = k_number) from fun e => hn e.2)] at hR
      (obtain ⟨nx1, t1, r1, rfl, hn1, hr1, hb0⟩ := H.atC (c := rdr src pr ts1) 1 rfl; replace H := Hp.ofR H hb0; clear hb0)
      replace hn : ¬ t1.kind = k_number := hn
      have hnb : ¬ t0.kind = s_bang := by rw [hm]; decide
      rw [if_neg hnb] at hR
      repeat' ((conv => whnf); first | refine ztT ?_ | (refine ztB ?_ ?_ <;> intro _ <;> try (exfalso; omega)) | (refine ztA ?_; clear H; intro _ _ H _) | fail)
      (replace H := Hp.toR H hn1 hr1)
      replace hR : R = (F.unary (d + 1) (t1 :: r1)).bind fun e ts2 => .ok (.mk 2 0 0 [] [] [e]) ts2 := hR
      ((conv => whnf); refine Cl.mkX (hun (t1 :: r1) _ hd41 (H.base2 HB) (H.atC 1 rfl) (Res.bind_out (by rw [← hR]; exact hne))) ?_ ?_; rotate_left; (rintro ch w9 ⟨e9, p9, q9, h9, rfl, H'⟩; exact ⟨e9, p9, q9, (by rw [hR, h9]; rfl), rfl, Hp.pan H H' (.inl rfl)⟩))
      rintro _ w3 ⟨⟨kd, o, n, nm, cb, A2, c2, l2⟩, ts2, h2, rfl, H'⟩
      replace H := H.updn (c := rdr src pr (t1 :: r1)) (Hp.swap H') rfl (.inl rfl) (.inl rfl)
      clear H'
      rw [h2, Res.bind_ok] at hR
      refine Sm.lith (cs := ET.enc (.mk kd o n nm cb A2 c2 l2)) H T.ok (fun p5 w4 H _ => ?_)
      repeat' ((conv => whnf); first | refine ztT ?_ | (refine ztB ?_ ?_ <;> intro _ <;> try (exfalso; omega)) | (refine ztA ?_; clear H; intro _ _ H _) | fail)
      refine ⟨.mk 2 0 0 [] [] (some ⟨p5, 0, none⟩) 1 [.mk kd o n nm cb A2 c2 l2], ts2, hR, et_v rfl, ?_⟩
      exact hfin _ p5 2 _ _ (H.sel [0, 0, 1] rfl)
  · have hb : t0.kind = s_bang := Classical.byContradiction fun e => hs ⟨hm, e⟩
    have hbm : (bs t0.kind == (⟨#[45]⟩ : ByteArray)) = false := by rw [hb]; exact (bs_eq s_bang s_minus).trans (by decide)
    have hcm : (t0.kind == s_minus) = false := by rw [hb]; decide
    repeat' ((conv => whnf); first | refine ztT ?_ | (refine ztB ?_ ?_ <;> intro _ <;> try (exfalso; omega)) | (refine ztA ?_; clear H; intro _ _ H _) | fail)
    (replace H := Hp.toR H hn0 hr0)
    (((conv => whnf); refine Cl.mkX (deep_c _ src pr (t0 :: r0) (d + 1) hwd _ (H.atC 1 rfl)) ?_ ?_; rotate_left; (rintro ch w9 ⟨e9, p9, q9, h9, rfl, H'⟩; exact ⟨e9, p9, q9, (by rw [hR, h9]; rfl), rfl, Hp.pan H H' (.inl rfl)⟩)); rintro _ w8 ⟨h1, ex⟩; replace H := H.ext ex; clear ex; have hd40 := deep_le h1; rw [h1, Res.bind_ok] at hR; clear h1)
    have hd41 : d + 1 ≤ 41 := by omega
    replace hR : R = (stepP (t0.kind == s_minus) (t0 :: r0)).bind fun _ ts1 => if t0.kind = s_minus ∧ curK ts1 = k_number then (stepP false ts1).bind fun _ ts2 => .ok (.mk 0 0 (curT ts1).n [] [] []) ts2 else (F.unary (d + 1) ts1).bind fun e ts2 => .ok (.mk (if t0.kind = s_bang then 3 else 2) 0 0 [] [] [e]) ts2 := hR
    rw [show stepP (t0.kind == s_minus) (t0 :: r0) = stepP (bs t0.kind == (⟨#[45]⟩ : ByteArray)) (t0 :: r0) by rw [hcm, hbm]] at hR
    repeat' ((conv => whnf); first | refine ztT ?_ | (refine ztB ?_ ?_ <;> intro _ <;> try (exfalso; omega)) | (refine ztA ?_; clear H; intro _ _ H _) | fail)
    (((conv => whnf); refine Cl.mkX (step_c _ src pr (t0 :: r0) wb _ (H.base2 HB) X.lo X.tb X.len (H.atC 1 rfl) hend) ?_ ?_; rotate_left; (rintro ch w9 ⟨e9, p9, q9, h9, rfl, H'⟩; exact ⟨e9, p9, q9, (by rw [hR, h9]; rfl), rfl, Hp.pan H H' (.inl rfl)⟩)); rintro _ w8 ⟨ts1, h1, H'⟩; replace H := H.upd (c := rdr src pr (t0 :: r0)) H' rfl (.inl rfl); clear H'; rw [h1, Res.bind_ok] at hR; clear h1)
    rw [if_neg (show ¬ (t0.kind = s_minus ∧ curK ts1 = k_number) from fun e => hm e.1), if_pos hb] at hR
    repeat' ((conv => whnf); first | refine ztT ?_ | (refine ztB ?_ ?_ <;> intro _ <;> try (exfalso; omega)) | (refine ztA ?_; clear H; intro _ _ H _) | fail)
    replace hR : R = (F.unary (d + 1) ts1).bind fun e ts2 => .ok (.mk 3 0 0 [] [] [e]) ts2 := hR
    ((conv => whnf); refine Cl.mkX (hun ts1 _ hd41 (H.base2 HB) (H.atC 1 rfl) (Res.bind_out (by rw [← hR]; exact hne))) ?_ ?_; rotate_left; (rintro ch w9 ⟨e9, p9, q9, h9, rfl, H'⟩; exact ⟨e9, p9, q9, (by rw [hR, h9]; rfl), rfl, Hp.pan H H' (.inl rfl)⟩))
    rintro _ w3 ⟨⟨kd, o, n, nm, cb, A2, c2, l2⟩, ts2, h2, rfl, H'⟩
    replace H := H.updn (c := rdr src pr ts1) (Hp.swap H') rfl (.inl rfl) (.inl rfl)
    clear H'
    rw [h2, Res.bind_ok] at hR
    refine Sm.lith (cs := ET.enc (.mk kd o n nm cb A2 c2 l2)) H T.ok (fun p5 w4 H _ => ?_)
    repeat' ((conv => whnf); first | refine ztT ?_ | (refine ztB ?_ ?_ <;> intro _ <;> try (exfalso; omega)) | (refine ztA ?_; clear H; intro _ _ H _) | fail)
    refine ⟨.mk 3 0 0 [] [] (some ⟨p5, 0, none⟩) 1 [.mk kd o n nm cb A2 c2 l2], ts2, hR, et_v rfl, ?_⟩
    exact hfin _ p5 3 _ _ (H.sel [0, 0, 1] rfl)
end
end Go.Proofs.YtfnjodpehomgfaaGreatDoor
namespace Go.Proofs.YtfnjodpehomgfaaGreatDoor
open Go Go.Sh Go.Tx
attribute [local irreducible] Blk Ext RdS
theorem neg_w {n : Int} (h1 : -9223372036854775808 ≤ n) (h2 : n ≤ 0) : IntKind.i64.wrap (0 - n) = negW n := by
  unfold negW
  by_cases h : n = -9223372036854775808
  · rw [if_pos h, h]; rfl
  · rw [if_neg h]
    simp [IntKind.wrap, IntKind.signed, IntKind.bits]
    omega
section
variable {src : Bs} {pr : Nat} {wb : World} {F : PF} (X : Txt src pr wb) (C : Con src pr wb F)
include X C
set_option maxHeartbeats 4000000 in
theorem primary_c (d : Nat) (ts : List Tk) (w : World) (hd : d ≤ 41) (hwb : Ext wb w) (h : Rdr src pr ts w) (hne : primaryP F d ts ≠ .out) :
    Cl Tryz.prog 145 #[.pointer (some ⟨pr, 0, none⟩), .int .i64 (d : Int)] w (OkE src pr (primaryP F d ts) w) (PanX (primaryP F d ts) pr w) := by
  have HB := X.ok hwb
  have hwd : IntKind.i64.wrap ((d : Int) + 1) = ((d + 1 : Nat) : Int) := w64 rfl (by omega) (by omega)
  obtain ⟨R, hR⟩ : ∃ R, R = primaryP F d ts := ⟨_, rfl⟩
  rw [← hR] at hne ⊢
  unfold primaryP at hR
  refine calls_ex (args := [.pointer (some ⟨pr, 0, none⟩), .int .i64 (d : Int)]) T.ok Tryz.func145 rfl rfl rfl rfl ?_
  have H := Hp.start (S := (· = pr)) (rdr_ok h) (fun k hk => hk)
  clear h
  refine Sq.mk ?_
  ((conv => whnf); refine Al.hp H ?_; clear H; intro p4 _ H _)
  (obtain ⟨nx, t0, r0, rfl, hn0, hr0, hb0⟩ := H.atC (c := rdr src pr ts) 1 rfl; replace H := Hp.ofR H hb0; clear hb0)
  rw [curK_cons] at hR
  have hng := neg_w hr0.2.2.1 hr0.2.2.2
  repeat' ((conv => whnf); first | refine ztT ?_ | (refine ztB ?_ ?_ <;> intro _ <;> try (exfalso; omega)) | (refine ztW ?_; clear H; intro _ _ H _) | fail)
  ((conv => whnf); refine Al.hp H ?_; clear H; intro p5 _ H _)
  have hex := fun ts w => C.expr 0 (d + 1) ts w
  rw [← hwd] at hex
  by_cases c1 : t0.kind = k_number
  · rw [if_pos c1] at hR
    repeat' ((conv => whnf); first | refine ztT ?_ | (refine ztB ?_ ?_ <;> intro _ <;> try (exfalso; omega)) | (refine ztA ?_; clear H; intro _ _ H _) | fail)
    (replace H := Hp.toR H hn0 hr0)
    (((conv => whnf); refine Cl.mkX (step_c _ src pr (t0 :: r0) wb _ (H.base2 HB) X.lo X.tb X.len (H.atC 2 rfl) (by rw [curK_cons, c1]; decide)) ?_ ?_; rotate_left; (rintro ch w9 ⟨e9, p9, q9, h9, rfl, H'⟩; exact ⟨e9, p9, q9, (by rw [hR, h9]; rfl), rfl, Hp.pan H H' (.inl rfl)⟩)); rintro _ w8 ⟨ts1, h1, H'⟩; replace H := H.upd (c := rdr src pr (t0 :: r0)) H' rfl (.inl rfl); clear H'; rw [h1, Res.bind_ok] at hR; clear h1)
    repeat' ((conv => whnf); first | refine ztT ?_ | (refine ztB ?_ ?_ <;> intro _ <;> try (exfalso; omega)) | (refine ztA ?_; clear H; intro _ _ H _) | fail)
    exact ⟨.mk 0 0 (negW t0.n) [] [] none 0 [], ts1, hR, et_v (by rw [← hng]; rfl), Hp.trsZ 0 0 (negW t0.n) [] [] (H.sel [2] rfl)⟩
  rw [if_neg c1] at hR
  by_cases c2 : t0.kind = k_name
  · rw [if_pos c2] at hR
    repeat' ((conv => whnf); first | refine ztT ?_ | (refine ztB ?_ ?_ <;> intro _ <;> try (exfalso; omega)) | (refine ztA ?_; clear H; intro _ _ H _) | fail)
    (replace H := Hp.toR H hn0 hr0)
    (((conv => whnf); refine Cl.mkX (step_c _ src pr (t0 :: r0) wb _ (H.base2 HB) X.lo X.tb X.len (H.atC 2 rfl) (by rw [curK_cons, c2]; decide)) ?_ ?_; rotate_left; (rintro ch w9 ⟨e9, p9, q9, h9, rfl, H'⟩; exact ⟨e9, p9, q9, (by rw [hR, h9]; rfl), rfl, Hp.pan H H' (.inl rfl)⟩)); rintro _ w8 ⟨ts1, h1, H'⟩; replace H := H.upd (c := rdr src pr (t0 :: r0)) H' rfl (.inl rfl); clear H'; rw [h1, Res.bind_ok] at hR; clear h1)
    (obtain ⟨nx1, t1, r1, rfl, hn1, hr1, hb0⟩ := H.atC (c := rdr src pr ts1) 2 rfl; replace H := Hp.ofR H hb0; clear hb0)
    by_cases hl : t1.kind = s_lp
    · rw [if_neg (show ¬ curK (t1 :: r1) ≠ s_lp from fun e => e hl)] at hR
      repeat' ((conv => whnf); first | refine ztT ?_ | (refine ztB ?_ ?_ <;> intro _ <;> try (exfalso; omega)) | (refine ztA ?_; clear H; intro _ _ H _) | fail)
      (replace H := Hp.toR H hn1 hr1)
      (((conv => whnf); refine Cl.mkX (deep_c _ src pr (t1 :: r1) (d + 1) hwd _ (H.atC 2 rfl)) ?_ ?_; rotate_left; (rintro ch w9 ⟨e9, p9, q9, h9, rfl, H'⟩; exact ⟨e9, p9, q9, (by rw [hR, h9]; rfl), rfl, Hp.pan H H' (.inl rfl)⟩)); rintro _ w8 ⟨h1, ex⟩; replace H := H.ext ex; clear ex; have hd40 := deep_le h1; rw [h1, Res.bind_ok] at hR; clear h1)
      repeat' ((conv => whnf); first | refine ztT ?_ | (refine ztB ?_ ?_ <;> intro _ <;> try (exfalso; omega)) | (refine ztA ?_; clear H; intro _ _ H _) | fail)
      (((conv => whnf); refine Cl.mkX (step_c _ src pr (t1 :: r1) wb _ (H.base2 HB) X.lo X.tb X.len (H.atC 2 rfl) (by rw [curK_cons, hl]; decide)) ?_ ?_; rotate_left; (rintro ch w9 ⟨e9, p9, q9, h9, rfl, H'⟩; exact ⟨e9, p9, q9, (by rw [hR, h9]; rfl), rfl, Hp.pan H H' (.inl rfl)⟩)); rintro _ w8 ⟨ts2, h1, H'⟩; replace H := H.upd (c := rdr src pr (t1 :: r1)) H' rfl (.inl rfl); clear H'; rw [h1, Res.bind_ok] at hR; clear h1)
      have harg := fun ts w => args_c X C (d + 1) ts w (by omega)
      rw [← hwd] at harg
      repeat' ((conv => whnf); first | refine ztT ?_ | (refine ztB ?_ ?_ <;> intro _ <;> try (exfalso; omega)) | (refine ztA ?_; clear H; intro _ _ H _) | fail)
      (conv => whnf)
      refine Dr.chX T.ok mixed [0, 1, 2, 3, 4] [5, 6, 7] (by kernel_rfl) rfl rfl (fun w' => Blk w' p5 66 (wordCs t0)) (PanX R pr w) (fun ch F' w' hds h => by (conv => whnf); rw [show F'.ds = [] from hds]; exact h) (fun w1 eT _ => ?_)
      replace H := H.ext eT
      repeat' ((conv => whnf); refine QLd1.own (fun _ hw => hw) ?_)
      (conv => whnf)
      refine ⟨H.blk 0 rfl, ?_⟩
      ((conv => whnf); refine Cl.mkX (harg ts2 _ (H.base2 HB) (H.atC 2 rfl) (Res.bind_out (by rw [← hR]; exact hne))) ?_ ?_; rotate_left; (rintro ch w9 ⟨e9, p9, q9, h9, rfl, H'⟩; exact ⟨e9, p9, q9, (by rw [hR, h9]; rfl), rfl, Hp.pan H H' (.inl rfl)⟩))
      rintro _ w3 ⟨A, c, l, ts3, h2, rfl, hlen, H'⟩
      replace H' := Hp.trsN 5 0 0 t0.text [] H'
      replace H := H.updn (c := rdr src pr ts2) (Hp.swap H') rfl (.inl rfl) (.inl rfl)
      clear H'
      rw [h2, Res.bind_ok] at hR
      (conv => whnf)
      refine ⟨H.blk 1 rfl, ?_⟩
      repeat' (first | refine ⟨H.blk 1 rfl, ?_⟩ | ((conv => whnf); first | refine ztT ?_ | (refine ztB ?_ ?_ <;> intro _ <;> try (exfalso; omega)) | (refine ztA ?_; clear H; intro _ _ H _) | fail))
      exact ⟨.mk 5 0 0 t0.text [] A c l, ts3, hR, et_v rfl, H.sel [0, 2] rfl⟩
    · rw [if_pos (show curK (t1 :: r1) ≠ s_lp from hl)] at hR
      repeat' ((conv => whnf); first | refine ztT ?_ | (refine ztB ?_ ?_ <;> intro _ <;> try (exfalso; omega)) | (refine ztA ?_; clear H; intro _ _ H _) | fail)
      (replace H := Hp.toR H hn1 hr1)
      exact ⟨.mk 1 0 0 t0.text [] none 0 [], t1 :: r1, hR, et_v rfl, Hp.trsZ 1 0 0 t0.text [] (H.sel [2] rfl)⟩
  rw [if_neg c2] at hR
  by_cases c3 : t0.kind = s_lp
  · rw [if_pos c3] at hR
    repeat' ((conv => whnf); first | refine ztT ?_ | (refine ztB ?_ ?_ <;> intro _ <;> try (exfalso; omega)) | (refine ztA ?_; clear H; intro _ _ H _) | fail)
    (replace H := Hp.toR H hn0 hr0)
    (((conv => whnf); refine Cl.mkX (deep_c _ src pr (t0 :: r0) (d + 1) hwd _ (H.atC 2 rfl)) ?_ ?_; rotate_left; (rintro ch w9 ⟨e9, p9, q9, h9, rfl, H'⟩; exact ⟨e9, p9, q9, (by rw [hR, h9]; rfl), rfl, Hp.pan H H' (.inl rfl)⟩)); rintro _ w8 ⟨h1, ex⟩; replace H := H.ext ex; clear ex; have hd40 := deep_le h1; rw [h1, Res.bind_ok] at hR; clear h1)
    repeat' ((conv => whnf); first | refine ztT ?_ | (refine ztB ?_ ?_ <;> intro _ <;> try (exfalso; omega)) | (refine ztA ?_; clear H; intro _ _ H _) | fail)
    (((conv => whnf); refine Cl.mkX (step_c _ src pr (t0 :: r0) wb _ (H.base2 HB) X.lo X.tb X.len (H.atC 2 rfl) (by rw [curK_cons, c3]; decide)) ?_ ?_; rotate_left; (rintro ch w9 ⟨e9, p9, q9, h9, rfl, H'⟩; exact ⟨e9, p9, q9, (by rw [hR, h9]; rfl), rfl, Hp.pan H H' (.inl rfl)⟩)); rintro _ w8 ⟨ts1, h1, H'⟩; replace H := H.upd (c := rdr src pr (t0 :: r0)) H' rfl (.inl rfl); clear H'; rw [h1, Res.bind_ok] at hR; clear h1)
    repeat' ((conv => whnf); first | refine ztT ?_ | (refine ztB ?_ ?_ <;> intro _ <;> try (exfalso; omega)) | (refine ztA ?_; clear H; intro _ _ H _) | fail)
    ((conv => whnf); refine Cl.mkX (hex ts1 _ (by omega) (by omega) (H.base2 HB) (H.atC 2 rfl) (Res.bind_out (by rw [← hR]; exact hne))) ?_ ?_; rotate_left; (rintro ch w9 ⟨e9, p9, q9, h9, rfl, H'⟩; exact ⟨e9, p9, q9, (by rw [hR, h9]; rfl), rfl, Hp.pan H H' (.inl rfl)⟩))
    rintro _ w3 ⟨⟨kd, o, n, nm, cb, A2, c2, l2⟩, ts2, h2, rfl, H'⟩
    replace H := H.updn (c := rdr src pr ts1) (Hp.swap H') rfl (.inl rfl) (.inl rfl)
    clear H'
    rw [h2, Res.bind_ok] at hR
    repeat' ((conv => whnf); first | refine ztT ?_ | (refine ztB ?_ ?_ <;> intro _ <;> try (exfalso; omega)) | (refine ztW ?_; clear H; intro _ _ H _) | fail)
    ((conv => whnf); refine Al.hp H ?_; clear H; intro p6 _ H _)
    repeat' ((conv => whnf); first | refine ztT ?_ | (refine ztB ?_ ?_ <;> intro _ <;> try (exfalso; omega)) | (refine ztA ?_; clear H; intro _ _ H _) | fail)
    (((conv => whnf); refine Cl.mkX (take_c s_rp src pr (ts2) wb _ (H.base2 HB) X.lo X.tb X.len (H.atC 4 rfl) (by decide)) ?_ ?_; rotate_left; (rintro ch w9 ⟨e9, p9, q9, h9, rfl, H'⟩; exact ⟨e9, p9, q9, (by rw [hR, h9]; rfl), rfl, Hp.pan H H' (.inl rfl)⟩)); rintro _ w8 ⟨t3, ts3, h1, rfl, H'⟩; replace H := H.upd (c := rdr src pr (ts2)) H' rfl (.inl rfl); clear H'; rw [h1, Res.bind_ok] at hR; clear h1)
    repeat' ((conv => whnf); first | refine ztT ?_ | (refine ztB ?_ ?_ <;> intro _ <;> try (exfalso; omega)) | (refine ztA ?_; clear H; intro _ _ H _) | fail)
    exact ⟨.mk kd o n nm cb A2 c2 l2, ts3, hR, et_v rfl, H.sel [1, 3] rfl⟩
  rw [if_neg c3] at hR
  by_cases c4 : t0.kind = k_min ∨ t0.kind = k_max ∨ t0.kind = k_reduce ∨ t0.kind = k_each
  · rw [if_pos c4] at hR
    have hend : t0.kind ≠ k_end := fun e => by rw [e] at c4; revert c4; decide
    have hfo := fun ts w => form_c X C t0.kind (d + 1) ts w
    rw [← hwd] at hfo
    rcases c4 with c4 | c4 | c4 | c4
    all_goals
      repeat' ((conv => whnf); first | refine ztT ?_ | (refine ztB ?_ ?_ <;> intro _ <;> try (exfalso; omega)) | (refine ztA ?_; clear H; intro _ _ H _) | fail)
      (replace H := Hp.toR H hn0 hr0)
      (((conv => whnf); refine Cl.mkX (deep_c _ src pr (t0 :: r0) (d + 1) hwd _ (H.atC 2 rfl)) ?_ ?_; rotate_left; (rintro ch w9 ⟨e9, p9, q9, h9, rfl, H'⟩; exact ⟨e9, p9, q9, (by rw [hR, h9]; rfl), rfl, Hp.pan H H' (.inl rfl)⟩)); rintro _ w8 ⟨h1, ex⟩; replace H := H.ext ex; clear ex; have hd40 := deep_le h1; rw [h1, Res.bind_ok] at hR; clear h1)
      repeat' ((conv => whnf); first | refine ztT ?_ | (refine ztB ?_ ?_ <;> intro _ <;> try (exfalso; omega)) | (refine ztA ?_; clear H; intro _ _ H _) | fail)
      (((conv => whnf); refine Cl.mkX (step_c _ src pr (t0 :: r0) wb _ (H.base2 HB) X.lo X.tb X.len (H.atC 2 rfl) hend) ?_ ?_; rotate_left; (rintro ch w9 ⟨e9, p9, q9, h9, rfl, H'⟩; exact ⟨e9, p9, q9, (by rw [hR, h9]; rfl), rfl, Hp.pan H H' (.inl rfl)⟩)); rintro _ w8 ⟨ts1, h1, H'⟩; replace H := H.upd (c := rdr src pr (t0 :: r0)) H' rfl (.inl rfl); clear H'; rw [h1, Res.bind_ok] at hR; clear h1)
      repeat' ((conv => whnf); first | refine ztT ?_ | (refine ztB ?_ ?_ <;> intro _ <;> try (exfalso; omega)) | (refine ztA ?_; clear H; intro _ _ H _) | fail)
      (((conv => whnf); refine Cl.mkX (take_c s_lp src pr (ts1) wb _ (H.base2 HB) X.lo X.tb X.len (H.atC 2 rfl) (by decide)) ?_ ?_; rotate_left; (rintro ch w9 ⟨e9, p9, q9, h9, rfl, H'⟩; exact ⟨e9, p9, q9, (by rw [hR, h9]; rfl), rfl, Hp.pan H H' (.inl rfl)⟩)); rintro _ w8 ⟨t2, ts2, h1, rfl, H'⟩; replace H := H.upd (c := rdr src pr (ts1)) H' rfl (.inl rfl); clear H'; rw [h1, Res.bind_ok] at hR; clear h1)
      repeat' ((conv => whnf); first | refine ztT ?_ | (refine ztB ?_ ?_ <;> intro _ <;> try (exfalso; omega)) | (refine ztA ?_; clear H; intro _ _ H _) | fail)
      (conv => whnf)
      refine Cl.mkX (hfo ts2 _ (by omega) (H.base2 HB) (H.atC 2 rfl) (by rw [curK_cons] at hR; rw [← hR]; exact hne)) ?_ ?_
      · rintro _ w3 ⟨⟨kd, o, n, nm, cb, A2, c2, l2⟩, ts3, h2, rfl, H'⟩
        replace H := H.updn (c := rdr src pr ts2) (Hp.swap H') rfl (.inl rfl) (.inl rfl)
        clear H'
        repeat' ((conv => whnf); first | refine ztT ?_ | (refine ztB ?_ ?_ <;> intro _ <;> try (exfalso; omega)) | (refine ztA ?_; clear H; intro _ _ H _) | fail)
        exact ⟨.mk kd o n nm cb A2 c2 l2, ts3, by rw [hR, curK_cons, h2], et_v rfl, H.sel [0, 2] rfl⟩
      · rintro ch w2 ⟨e, p, q, h1, rfl, H'⟩
        exact ⟨e, p, q, by rw [hR, curK_cons, h1], rfl, Hp.pan H H' (.inl rfl)⟩
  rw [if_neg c4] at hR
  simp only [not_or] at c4
  obtain ⟨c5, c6, c7, c8⟩ := c4
  repeat' ((conv => whnf); first | refine ztT ?_ | (refine ztB ?_ ?_ <;> intro _ <;> try (exfalso; omega)) | (refine ztA ?_; clear H; intro _ _ H _) | fail)
  (conv => whnf)
  refine Cl.mkX (fail_c pr 141 t0.at_ _) (fun _ _ h => h.elim) ?_
  rintro ch w5 ⟨q5, rfl, H'⟩
  exact ⟨141, t0.at_, q5, hR, rfl, (H.fr0 H' (.inl rfl)).sel [0] rfl⟩
end
end Go.Proofs.YtfnjodpehomgfaaGreatDoor
namespace Go.Proofs.YtfnjodpehomgfaaGreatDoor
open Go Go.Sh Go.Tx
attribute [local irreducible] Blk Ext RdS
theorem sm_v {v : Value} {kd : Int} {nm : Bs} {k1 o1 n1 : Int} {a1 b1 : Bs} {A1 B E : Option Addr} {c1 cb ce : Nat} {l1 : List ET} {b f : List SM} (h : v = .agg #[.int .i64 kd, .string (bs nm), .int .i64 k1, .int .i64 o1, .int .i64 n1, .string (bs a1), .string (bs b1), .slice A1 l1.length c1, .slice B b.length cb, .slice E f.length ce]) : v = SM.v (.mk kd nm (.mk k1 o1 n1 a1 b1 A1 c1 l1) B cb b E ce f) := h
theorem Hp.stsE {S : Nat → Prop} {w0 w : World} {Γ : List Ck} {e : ET} (kd : Int) (nm : Bs) (H : Hp S w0 w (trs [e] :: Γ)) : Hp S w0 w (sts [.mk kd nm e none 0 [] none 0 []] :: Γ) :=
  Hp.stsN kd nm ((Hp.stl0 (Hp.stl0 H)).perm (List.perm_middle (l₁ := [stl none 0 [], stl none 0 []])))
theorem begins_ne {k : Bs} (h : beginsB k = true) : k ≠ k_end := fun e => by rw [e] at h; revert h; decide
section
variable {src : Bs} {pr : Nat} {wb : World} {F : PF} (X : Txt src pr wb) (C : Con src pr wb F)
include X C
set_option maxHeartbeats 4000000 in
theorem plain_c (d : Nat) (ts : List Tk) (w : World) (hd : d ≤ 41) (hwb : Ext wb w) (h : Rdr src pr ts w) (hbg : beginsB (curK ts) = true) (hne : plainP F d ts ≠ .out) :
    Cl Tryz.prog 112 #[.pointer (some ⟨pr, 0, none⟩), .int .i64 (d : Int)] w (OkS src pr (plainP F d ts) w) (PanX (plainP F d ts) pr w) := by
  have HB := X.ok hwb
  obtain ⟨R, hR⟩ : ∃ R, R = plainP F d ts := ⟨_, rfl⟩
  rw [← hR] at hne ⊢
  unfold plainP at hR
  refine calls_ex (args := [.pointer (some ⟨pr, 0, none⟩), .int .i64 (d : Int)]) T.ok Tryz.func112 rfl rfl rfl rfl ?_
  have H := Hp.start (S := (· = pr)) (rdr_ok h) (fun k hk => hk)
  clear h
  refine Sq.mk ?_
  ((conv => whnf); refine Al.hp H ?_; clear H; intro p4 _ H _)
  (obtain ⟨nx, t0, r0, rfl, hn0, hr0, hb0⟩ := H.atC (c := rdr src pr ts) 1 rfl; replace H := Hp.ofR H hb0; clear hb0)
  rw [curK_cons] at hR hbg
  repeat' ((conv => whnf); first | refine ztT ?_ | (refine ztB ?_ ?_ <;> intro _ <;> try (exfalso; omega)) | (refine ztW ?_; clear H; intro _ _ H _) | fail)
  ((conv => whnf); refine Al.hp H ?_; clear H; intro p5 _ H _)
  repeat' ((conv => whnf); first | refine ztT ?_ | (refine ztB ?_ ?_ <;> intro _ <;> try (exfalso; omega)) | (refine ztA ?_; clear H; intro _ _ H _) | fail)
  (replace H := Hp.toR H hn0 hr0)
  (((conv => whnf); refine Cl.mkX (step_c _ src pr (t0 :: r0) wb _ (H.base2 HB) X.lo X.tb X.len (H.atC 2 rfl) (begins_ne hbg)) ?_ ?_; rotate_left; (rintro ch w9 ⟨e9, p9, q9, h9, rfl, H'⟩; exact ⟨e9, p9, q9, (by rw [hR, h9]; rfl), rfl, Hp.pan H H' (.inl rfl)⟩)); rintro _ w8 ⟨ts1, h1, H'⟩; replace H := H.upd (c := rdr src pr (t0 :: r0)) H' rfl (.inl rfl); clear H'; rw [h1, Res.bind_ok] at hR; clear h1)
  by_cases c1 : t0.kind = k_sync
  · rw [if_pos c1] at hR
    repeat' ((conv => whnf); first | refine ztT ?_ | (refine ztB ?_ ?_ <;> intro _ <;> try (exfalso; omega)) | (refine ztA ?_; clear H; intro _ _ H _) | fail)
    exact ⟨.mk 3 [] (.mk 0 0 0 [] [] none 0 []) none 0 [] none 0 [], ts1, hR, sm_v rfl, Hp.stsE 3 [] (Hp.trsZ 0 0 0 [] [] (H.sel [2] rfl))⟩
  rw [if_neg c1] at hR
  by_cases c2 : t0.kind = k_break
  · rw [if_pos c2] at hR
    repeat' ((conv => whnf); first | refine ztT ?_ | (refine ztB ?_ ?_ <;> intro _ <;> try (exfalso; omega)) | (refine ztA ?_; clear H; intro _ _ H _) | fail)
    exact ⟨.mk 8 [] (.mk 0 0 0 [] [] none 0 []) none 0 [] none 0 [], ts1, hR, sm_v rfl, Hp.stsE 8 [] (Hp.trsZ 0 0 0 [] [] (H.sel [2] rfl))⟩
  rw [if_neg c2] at hR
  by_cases c3 : t0.kind = k_continue
  · rw [if_pos c3] at hR
    repeat' ((conv => whnf); first | refine ztT ?_ | (refine ztB ?_ ?_ <;> intro _ <;> try (exfalso; omega)) | (refine ztA ?_; clear H; intro _ _ H _) | fail)
    exact ⟨.mk 9 [] (.mk 0 0 0 [] [] none 0 []) none 0 [] none 0 [], ts1, hR, sm_v rfl, Hp.stsE 9 [] (Hp.trsZ 0 0 0 [] [] (H.sel [2] rfl))⟩
  rw [if_neg c3] at hR
  by_cases c4 : t0.kind = k_do
  · rw [if_pos c4] at hR
    repeat' ((conv => whnf); first | refine ztT ?_ | (refine ztB ?_ ?_ <;> intro _ <;> try (exfalso; omega)) | (refine ztA ?_; clear H; intro _ _ H _) | fail)
    ((conv => whnf); refine Cl.mkX (C.expr 0 d ts1 _ (by omega) hd (H.base2 HB) (H.atC 2 rfl) (Res.bind_out (by rw [← hR]; exact hne))) ?_ ?_; rotate_left; (rintro ch w9 ⟨e9, p9, q9, h9, rfl, H'⟩; exact ⟨e9, p9, q9, (by rw [hR, h9]; rfl), rfl, Hp.pan H H' (.inl rfl)⟩))
    rintro _ w3 ⟨⟨kd, o, n, nm, cb, A2, c2, l2⟩, ts2, h2, rfl, H'⟩
    replace H := H.updn (c := rdr src pr ts1) (Hp.swap H') rfl (.inl rfl) (.inl rfl)
    clear H'
    rw [h2, Res.bind_ok] at hR
    repeat' ((conv => whnf); first | refine ztT ?_ | (refine ztB ?_ ?_ <;> intro _ <;> try (exfalso; omega)) | (refine ztA ?_; clear H; intro _ _ H _) | fail)
    exact ⟨.mk 6 [] (.mk kd o n nm cb A2 c2 l2) none 0 [] none 0 [], ts2, hR, sm_v rfl, Hp.stsE 6 [] (H.sel [0, 2] rfl)⟩
  rw [if_neg c4] at hR
  by_cases c5 : t0.kind = k_return
  · rw [if_pos c5] at hR
    repeat' ((conv => whnf); first | refine ztT ?_ | (refine ztB ?_ ?_ <;> intro _ <;> try (exfalso; omega)) | (refine ztA ?_; clear H; intro _ _ H _) | fail)
    ((conv => whnf); refine Cl.mkX (C.expr 0 d ts1 _ (by omega) hd (H.base2 HB) (H.atC 2 rfl) (Res.bind_out (by rw [← hR]; exact hne))) ?_ ?_; rotate_left; (rintro ch w9 ⟨e9, p9, q9, h9, rfl, H'⟩; exact ⟨e9, p9, q9, (by rw [hR, h9]; rfl), rfl, Hp.pan H H' (.inl rfl)⟩))
    rintro _ w3 ⟨⟨kd, o, n, nm, cb, A2, c2, l2⟩, ts2, h2, rfl, H'⟩
    replace H := H.updn (c := rdr src pr ts1) (Hp.swap H') rfl (.inl rfl) (.inl rfl)
    clear H'
    rw [h2, Res.bind_ok] at hR
    repeat' ((conv => whnf); first | refine ztT ?_ | (refine ztB ?_ ?_ <;> intro _ <;> try (exfalso; omega)) | (refine ztA ?_; clear H; intro _ _ H _) | fail)
    exact ⟨.mk 7 [] (.mk kd o n nm cb A2 c2 l2) none 0 [] none 0 [], ts2, hR, sm_v rfl, Hp.stsE 7 [] (H.sel [0, 2] rfl)⟩
  rw [if_neg c5] at hR
  by_cases c6 : t0.kind = k_spawn
  · rw [if_pos c6] at hR
    repeat' ((conv => whnf); first | refine ztT ?_ | (refine ztB ?_ ?_ <;> intro _ <;> try (exfalso; omega)) | (refine ztA ?_; clear H; intro _ _ H _) | fail)
    (((conv => whnf); refine Cl.mkX (take_c k_name src pr (ts1) wb _ (H.base2 HB) X.lo X.tb X.len (H.atC 2 rfl) (by decide)) ?_ ?_; rotate_left; (rintro ch w9 ⟨e9, p9, q9, h9, rfl, H'⟩; exact ⟨e9, p9, q9, (by rw [hR, h9]; rfl), rfl, Hp.pan H H' (.inl rfl)⟩)); rintro _ w8 ⟨t1, ts2, h1, rfl, H'⟩; replace H := H.upd (c := rdr src pr (ts1)) H' rfl (.inl rfl); clear H'; rw [h1, Res.bind_ok] at hR; clear h1)
    repeat' ((conv => whnf); first | refine ztT ?_ | (refine ztB ?_ ?_ <;> intro _ <;> try (exfalso; omega)) | (refine ztW ?_; clear H; intro _ _ H _) | fail)
    ((conv => whnf); refine Al.hp H ?_; clear H; intro p6 _ H _)
    repeat' ((conv => whnf); first | refine ztT ?_ | (refine ztB ?_ ?_ <;> intro _ <;> try (exfalso; omega)) | (refine ztA ?_; clear H; intro _ _ H _) | fail)
    (((conv => whnf); refine Cl.mkX (take_c s_asg src pr (ts2) wb _ (H.base2 HB) X.lo X.tb X.len (H.atC 3 rfl) (by decide)) ?_ ?_; rotate_left; (rintro ch w9 ⟨e9, p9, q9, h9, rfl, H'⟩; exact ⟨e9, p9, q9, (by rw [hR, h9]; rfl), rfl, Hp.pan H H' (.inl rfl)⟩)); rintro _ w8 ⟨t2, ts3, h1, rfl, H'⟩; replace H := H.upd (c := rdr src pr (ts2)) H' rfl (.inl rfl); clear H'; rw [h1, Res.bind_ok] at hR; clear h1)
    repeat' ((conv => whnf); first | refine ztT ?_ | (refine ztB ?_ ?_ <;> intro _ <;> try (exfalso; omega)) | (refine ztA ?_; clear H; intro _ _ H _) | fail)
    (((conv => whnf); refine Cl.mkX (take_c k_name src pr (ts3) wb _ (H.base2 HB) X.lo X.tb X.len (H.atC 3 rfl) (by decide)) ?_ ?_; rotate_left; (rintro ch w9 ⟨e9, p9, q9, h9, rfl, H'⟩; exact ⟨e9, p9, q9, (by rw [hR, h9]; rfl), rfl, Hp.pan H H' (.inl rfl)⟩)); rintro _ w8 ⟨t3, ts4, h1, rfl, H'⟩; replace H := H.upd (c := rdr src pr (ts3)) H' rfl (.inl rfl); clear H'; rw [h1, Res.bind_ok] at hR; clear h1)
    repeat' ((conv => whnf); first | refine ztT ?_ | (refine ztB ?_ ?_ <;> intro _ <;> try (exfalso; omega)) | (refine ztA ?_; clear H; intro _ _ H _) | fail)
    (((conv => whnf); refine Cl.mkX (take_c s_lp src pr (ts4) wb _ (H.base2 HB) X.lo X.tb X.len (H.atC 3 rfl) (by decide)) ?_ ?_; rotate_left; (rintro ch w9 ⟨e9, p9, q9, h9, rfl, H'⟩; exact ⟨e9, p9, q9, (by rw [hR, h9]; rfl), rfl, Hp.pan H H' (.inl rfl)⟩)); rintro _ w8 ⟨t4, ts5, h1, rfl, H'⟩; replace H := H.upd (c := rdr src pr (ts4)) H' rfl (.inl rfl); clear H'; rw [h1, Res.bind_ok] at hR; clear h1)
    repeat' ((conv => whnf); first | refine ztT ?_ | (refine ztB ?_ ?_ <;> intro _ <;> try (exfalso; omega)) | (refine ztA ?_; clear H; intro _ _ H _) | fail)
    ((conv => whnf); refine Cl.mkX (args_c X C d ts5 _ hd (H.base2 HB) (H.atC 3 rfl) (Res.bind_out (by rw [← hR]; exact hne))) ?_ ?_; rotate_left; (rintro ch w9 ⟨e9, p9, q9, h9, rfl, H'⟩; exact ⟨e9, p9, q9, (by rw [hR, h9]; rfl), rfl, Hp.pan H H' (.inl rfl)⟩))
    rintro _ w3 ⟨A, c, l, ts6, h2, rfl, hlen, H'⟩
    replace H' := Hp.trsN 5 0 0 t3.text [] H'
    replace H := H.updn (c := rdr src pr ts5) (Hp.swap H') rfl (.inl rfl) (.inl rfl)
    clear H'
    rw [h2, Res.bind_ok] at hR
    repeat' ((conv => whnf); first | refine ztT ?_ | (refine ztB ?_ ?_ <;> intro _ <;> try (exfalso; omega)) | (refine ztA ?_; clear H; intro _ _ H _) | fail)
    exact ⟨.mk 2 t1.text (.mk 5 0 0 t3.text [] A c l) none 0 [] none 0 [], ts6, hR, sm_v rfl, Hp.stsE 2 t1.text (H.sel [0, 3] rfl)⟩
  rw [if_neg c6] at hR
  by_cases c7 : t0.kind = k_let
  · rw [if_pos c7] at hR
    repeat' ((conv => whnf); first | refine ztT ?_ | (refine ztB ?_ ?_ <;> intro _ <;> try (exfalso; omega)) | (refine ztA ?_; clear H; intro _ _ H _) | fail)
    (((conv => whnf); refine Cl.mkX (take_c k_name src pr (ts1) wb _ (H.base2 HB) X.lo X.tb X.len (H.atC 2 rfl) (by decide)) ?_ ?_; rotate_left; (rintro ch w9 ⟨e9, p9, q9, h9, rfl, H'⟩; exact ⟨e9, p9, q9, (by rw [hR, h9]; rfl), rfl, Hp.pan H H' (.inl rfl)⟩)); rintro _ w8 ⟨t1, ts2, h1, rfl, H'⟩; replace H := H.upd (c := rdr src pr (ts1)) H' rfl (.inl rfl); clear H'; rw [h1, Res.bind_ok] at hR; clear h1)
    repeat' ((conv => whnf); first | refine ztT ?_ | (refine ztB ?_ ?_ <;> intro _ <;> try (exfalso; omega)) | (refine ztW ?_; clear H; intro _ _ H _) | fail)
    ((conv => whnf); refine Al.hp H ?_; clear H; intro p6 _ H _)
    repeat' ((conv => whnf); first | refine ztT ?_ | (refine ztB ?_ ?_ <;> intro _ <;> try (exfalso; omega)) | (refine ztA ?_; clear H; intro _ _ H _) | fail)
    (((conv => whnf); refine Cl.mkX (take_c s_asg src pr (ts2) wb _ (H.base2 HB) X.lo X.tb X.len (H.atC 3 rfl) (by decide)) ?_ ?_; rotate_left; (rintro ch w9 ⟨e9, p9, q9, h9, rfl, H'⟩; exact ⟨e9, p9, q9, (by rw [hR, h9]; rfl), rfl, Hp.pan H H' (.inl rfl)⟩)); rintro _ w8 ⟨t2, ts3, h1, rfl, H'⟩; replace H := H.upd (c := rdr src pr (ts2)) H' rfl (.inl rfl); clear H'; rw [h1, Res.bind_ok] at hR; clear h1)
    repeat' ((conv => whnf); first | refine ztT ?_ | (refine ztB ?_ ?_ <;> intro _ <;> try (exfalso; omega)) | (refine ztA ?_; clear H; intro _ _ H _) | fail)
    ((conv => whnf); refine Cl.mkX (C.expr 0 d ts3 _ (by omega) hd (H.base2 HB) (H.atC 3 rfl) (Res.bind_out (by rw [← hR]; exact hne))) ?_ ?_; rotate_left; (rintro ch w9 ⟨e9, p9, q9, h9, rfl, H'⟩; exact ⟨e9, p9, q9, (by rw [hR, h9]; rfl), rfl, Hp.pan H H' (.inl rfl)⟩))
    rintro _ w3 ⟨⟨kd, o, n, nm, cb, A2, c2, l2⟩, ts4, h2, rfl, H'⟩
    replace H := H.updn (c := rdr src pr ts3) (Hp.swap H') rfl (.inl rfl) (.inl rfl)
    clear H'
    rw [h2, Res.bind_ok] at hR
    repeat' ((conv => whnf); first | refine ztT ?_ | (refine ztB ?_ ?_ <;> intro _ <;> try (exfalso; omega)) | (refine ztA ?_; clear H; intro _ _ H _) | fail)
    exact ⟨.mk 0 t1.text (.mk kd o n nm cb A2 c2 l2) none 0 [] none 0 [], ts4, hR, sm_v rfl, Hp.stsE 0 t1.text (H.sel [0, 3] rfl)⟩
  rw [if_neg c7] at hR
  repeat' ((conv => whnf); first | refine ztT ?_ | (refine ztB ?_ ?_ <;> intro _ <;> try (exfalso; omega)) | (refine ztA ?_; clear H; intro _ _ H _) | fail)
  (((conv => whnf); refine Cl.mkX (take_c s_asg src pr (ts1) wb _ (H.base2 HB) X.lo X.tb X.len (H.atC 2 rfl) (by decide)) ?_ ?_; rotate_left; (rintro ch w9 ⟨e9, p9, q9, h9, rfl, H'⟩; exact ⟨e9, p9, q9, (by rw [hR, h9]; rfl), rfl, Hp.pan H H' (.inl rfl)⟩)); rintro _ w8 ⟨t2, ts3, h1, rfl, H'⟩; replace H := H.upd (c := rdr src pr (ts1)) H' rfl (.inl rfl); clear H'; rw [h1, Res.bind_ok] at hR; clear h1)
  repeat' ((conv => whnf); first | refine ztT ?_ | (refine ztB ?_ ?_ <;> intro _ <;> try (exfalso; omega)) | (refine ztA ?_; clear H; intro _ _ H _) | fail)
  (conv => whnf)
  refine Dr.chX T.ok mixed [0, 1, 2, 3] [4, 5, 6] (by kernel_rfl) rfl rfl (fun w' => Blk w' p5 66 (wordCs t0)) (PanX R pr w) (fun ch F' w' hds h => by (conv => whnf); rw [show F'.ds = [] from hds]; exact h) (fun w1 eT _ => ?_)
  replace H := H.ext eT
  repeat' ((conv => whnf); refine QLd1.own (fun _ hw => hw) ?_)
  (conv => whnf)
  refine ⟨H.blk 0 rfl, ?_⟩
  ((conv => whnf); refine Cl.mkX (C.expr 0 d ts3 _ (by omega) hd (H.base2 HB) (H.atC 2 rfl) (Res.bind_out (by rw [← hR]; exact hne))) ?_ ?_; rotate_left; (rintro ch w9 ⟨e9, p9, q9, h9, rfl, H'⟩; exact ⟨e9, p9, q9, (by rw [hR, h9]; rfl), rfl, Hp.pan H H' (.inl rfl)⟩))
  rintro _ w3 ⟨⟨kd, o, n, nm, cb, A2, c2, l2⟩, ts4, h2, rfl, H'⟩
  replace H := H.updn (c := rdr src pr ts3) (Hp.swap H') rfl (.inl rfl) (.inl rfl)
  clear H'
  rw [h2, Res.bind_ok] at hR
  (conv => whnf)
  refine ⟨H.blk 1 rfl, ?_⟩
  repeat' (first | refine ⟨H.blk 1 rfl, ?_⟩ | ((conv => whnf); first | refine ztT ?_ | (refine ztB ?_ ?_ <;> intro _ <;> try (exfalso; omega)) | (refine ztA ?_; clear H; intro _ _ H _) | fail))
  exact ⟨.mk 1 t0.text (.mk kd o n nm cb A2 c2 l2) none 0 [] none 0 [], ts4, hR, sm_v rfl, Hp.stsE 1 t0.text (H.sel [0, 2] rfl)⟩
end
end Go.Proofs.YtfnjodpehomgfaaGreatDoor
namespace Go.Proofs.YtfnjodpehomgfaaGreatDoor
open Go Go.Sh Go.Tx
attribute [local irreducible] Blk Ext RdS
theorem begins_or {k : Bs} (h : beginsB k = true) : k = k_let ∨ k = k_spawn ∨ k = k_sync ∨ k = k_if ∨ k = k_while ∨ k = k_do ∨ k = k_return ∨ k = k_break ∨ k = k_continue ∨ k = k_name := by
  simp only [beginsB, Bool.or_eq_true, beq_iff_eq] at h
  rcases h with ((((((((h | h) | h) | h) | h) | h) | h) | h) | h) | h <;> simp [h]
theorem QLd.own {W : World → Prop} {b o m : Nat} {t : TypeId} {vs : List Value} {k : List Value → Prop} (h : ∀ w', W w' → Blk w' b t vs) (hk : k ((vs.drop o).take m)) (hm : ((vs.drop o).take m).length = m := by rfl) : QLd W ⟨b, o, none⟩ m k := by
  refine ⟨_, fun w' hw' => ⟨hm, fun i v hv => ?_⟩, hk⟩
  rw [add_lit, (h w' hw').cell]
  have : i < m := by have := (List.getElem?_eq_some_iff.1 hv).1; omega
  rw [List.getElem?_take_of_lt this, List.getElem?_drop] at hv
  exact hv
section
variable {src : Bs} {pr : Nat} {wb : World} {F : PF} (X : Txt src pr wb) (C : Con src pr wb F)
include X C
set_option maxHeartbeats 8000000 in
theorem statement_c (d : Nat) (ts : List Tk) (w : World) (hd : d ≤ 41) (hwb : Ext wb w) (h : Rdr src pr ts w) (hne : stmtP F d ts ≠ .out) :
    Cl Tryz.prog 90 #[.pointer (some ⟨pr, 0, none⟩), .int .i64 (d : Int)] w (OkS src pr (stmtP F d ts) w) (PanX (stmtP F d ts) pr w) := by
  have HB := X.ok hwb
  have hwd : IntKind.i64.wrap ((d : Int) + 1) = ((d + 1 : Nat) : Int) := w64 rfl (by omega) (by omega)
  obtain ⟨R, hR⟩ : ∃ R, R = stmtP F d ts := ⟨_, rfl⟩
  rw [← hR] at hne ⊢
  unfold stmtP at hR
  refine calls_ex (args := [.pointer (some ⟨pr, 0, none⟩), .int .i64 (d : Int)]) T.ok Tryz.func90 rfl rfl rfl rfl ?_
  have H := Hp.start (S := (· = pr)) (rdr_ok h) (fun k hk => hk)
  clear h
  refine Sq.mk ?_
  ((conv => whnf); refine Al.hp H ?_; clear H; intro p4 _ H _)
  (obtain ⟨nx, t0, r0, rfl, hn0, hr0, hb0⟩ := H.atC (c := rdr src pr ts) 1 rfl; replace H := Hp.ofR H hb0; clear hb0)
  rw [curK_cons] at hR
  by_cases hbg : beginsB t0.kind = true
  case neg =>
    rw [if_neg hbg] at hR
    have hno : ∀ k, beginsB k = true → ¬ t0.kind = k := fun k hk e => hbg (by rw [e]; exact hk)
    have n1 := hno k_let (by decide)
    have n2 := hno k_spawn (by decide)
    have n3 := hno k_sync (by decide)
    have n4 := hno k_if (by decide)
    have n5 := hno k_while (by decide)
    have n6 := hno k_do (by decide)
    have n7 := hno k_return (by decide)
    have n8 := hno k_break (by decide)
    have n9 := hno k_continue (by decide)
    have n10 := hno k_name (by decide)
    repeat' ((conv => whnf); first | refine ztT ?_ | (refine ztB ?_ ?_ <;> intro _ <;> try (exfalso; omega)) | (refine ztA ?_; clear H; intro _ _ H _) | fail)
    (conv => whnf)
    refine Cl.mkX (fail_c pr 141 t0.at_ _) (fun _ _ h => h.elim) ?_
    rintro ch w5 ⟨q5, rfl, H'⟩
    exact ⟨141, t0.at_, q5, hR, rfl, (H.fr0 H' (.inl rfl)).sel [0] rfl⟩
  rw [if_pos hbg] at hR
  by_cases c1 : t0.kind = k_if
  · repeat' ((conv => whnf); first | refine ztT ?_ | (refine ztB ?_ ?_ <;> intro _ <;> try (exfalso; omega)) | (refine ztA ?_; clear H; intro _ _ H _) | fail)
    (replace H := Hp.toR H hn0 hr0)
    (((conv => whnf); refine Cl.mkX (deep_c _ src pr (t0 :: r0) (d) rfl _ (H.atC 1 rfl)) ?_ ?_; rotate_left; (rintro ch w9 ⟨e9, p9, q9, h9, rfl, H'⟩; exact ⟨e9, p9, q9, (by rw [hR, h9]; rfl), rfl, Hp.pan H H' (.inl rfl)⟩)); rintro _ w8 ⟨h1, ex⟩; replace H := H.ext ex; clear ex; have hd40 := deep_le h1; rw [h1, Res.bind_ok] at hR; clear h1)
    rw [if_pos (show curK (t0 :: r0) = k_if from c1)] at hR
    obtain ⟨nx1, t1, r1, h01, hn1, hr1, hb0⟩ := H.atC (c := rdr src pr (t0 :: r0)) 1 rfl
    obtain ⟨rfl, rfl⟩ := List.cons.inj h01
    replace H := Hp.ofR H hb0
    repeat' ((conv => whnf); first | refine ztT ?_ | (refine ztB ?_ ?_ <;> intro _ <;> try (exfalso; omega)) | (refine ztA ?_; clear H; intro _ _ H _) | fail)
    replace H := Hp.toR H hn1 hr1
    (conv => whnf)
    refine Cl.mkX (C.choice d _ _ hd40 (H.base2 HB) (H.atC 1 rfl) (by rw [← hR]; exact hne)) ?_ ?_
    · rintro _ w3 ⟨⟨kd, nm, ⟨k1, o1, n1, a1, b1, A1, c1, l1⟩, B, cb, b, E, ce, f⟩, ts', h1, rfl, H'⟩
      replace H := H.updn (c := rdr src pr (t0 :: r0)) (Hp.swap H') rfl (.inl rfl) (.inl rfl)
      clear H'
      repeat' ((conv => whnf); first | refine ztT ?_ | (refine ztB ?_ ?_ <;> intro _ <;> try (exfalso; omega)) | (refine ztA ?_; clear H; intro _ _ H _) | fail)
      exact ⟨.mk kd nm (.mk k1 o1 n1 a1 b1 A1 c1 l1) B cb b E ce f, ts', by rw [hR, h1], sm_v rfl, H.sel [0, 1] rfl⟩
    · rintro ch w2 ⟨e, p, q, h1, rfl, H'⟩
      exact ⟨e, p, q, by rw [hR, h1], rfl, Hp.pan H H' (.inl rfl)⟩
  by_cases c2 : t0.kind = k_while
  · repeat' ((conv => whnf); first | refine ztT ?_ | (refine ztB ?_ ?_ <;> intro _ <;> try (exfalso; omega)) | (refine ztA ?_; clear H; intro _ _ H _) | fail)
    (replace H := Hp.toR H hn0 hr0)
    (((conv => whnf); refine Cl.mkX (deep_c _ src pr (t0 :: r0) (d) rfl _ (H.atC 1 rfl)) ?_ ?_; rotate_left; (rintro ch w9 ⟨e9, p9, q9, h9, rfl, H'⟩; exact ⟨e9, p9, q9, (by rw [hR, h9]; rfl), rfl, Hp.pan H H' (.inl rfl)⟩)); rintro _ w8 ⟨h1, ex⟩; replace H := H.ext ex; clear ex; have hd40 := deep_le h1; rw [h1, Res.bind_ok] at hR; clear h1)
    rw [if_neg (show ¬ curK (t0 :: r0) = k_if from c1), if_pos (show curK (t0 :: r0) = k_while from c2)] at hR
    obtain ⟨nx1, t1, r1, h01, hn1, hr1, hb0⟩ := H.atC (c := rdr src pr (t0 :: r0)) 1 rfl
    obtain ⟨rfl, rfl⟩ := List.cons.inj h01
    replace H := Hp.ofR H hb0
    repeat' ((conv => whnf); first | refine ztT ?_ | (refine ztB ?_ ?_ <;> intro _ <;> try (exfalso; omega)) | (refine ztA ?_; clear H; intro _ _ H _) | fail)
    replace H := Hp.toR H hn1 hr1
    (((conv => whnf); refine Cl.mkX (step_c _ src pr (t0 :: r0) wb _ (H.base2 HB) X.lo X.tb X.len (H.atC 1 rfl) (begins_ne hbg)) ?_ ?_; rotate_left; (rintro ch w9 ⟨e9, p9, q9, h9, rfl, H'⟩; exact ⟨e9, p9, q9, (by rw [hR, h9]; rfl), rfl, Hp.pan H H' (.inl rfl)⟩)); rintro _ w8 ⟨ts1, h1, H'⟩; replace H := H.upd (c := rdr src pr (t0 :: r0)) H' rfl (.inl rfl); clear H'; rw [h1, Res.bind_ok] at hR; clear h1)
    repeat' ((conv => whnf); first | refine ztT ?_ | (refine ztB ?_ ?_ <;> intro _ <;> try (exfalso; omega)) | (refine ztA ?_; clear H; intro _ _ H _) | fail)
    ((conv => whnf); refine Cl.mkX (C.expr 0 d ts1 _ (by omega) hd (H.base2 HB) (H.atC 1 rfl) (Res.bind_out (by rw [← hR]; exact hne))) ?_ ?_; rotate_left; (rintro ch w9 ⟨e9, p9, q9, h9, rfl, H'⟩; exact ⟨e9, p9, q9, (by rw [hR, h9]; rfl), rfl, Hp.pan H H' (.inl rfl)⟩))
    rintro _ w3 ⟨⟨kd, o, n, nm, cb, A2, c2, l2⟩, ts2, h2, rfl, H'⟩
    replace H := H.updn (c := rdr src pr ts1) (Hp.swap H') rfl (.inl rfl) (.inl rfl)
    clear H'
    rw [h2, Res.bind_ok] at hR
    repeat' ((conv => whnf); first | refine ztT ?_ | (refine ztB ?_ ?_ <;> intro _ <;> try (exfalso; omega)) | (refine ztW ?_; clear H; intro _ _ H _) | fail)
    ((conv => whnf); refine Al.hp H ?_; clear H; intro p5 _ H _)
    repeat' ((conv => whnf); first | refine ztT ?_ | (refine ztB ?_ ?_ <;> intro _ <;> try (exfalso; omega)) | (refine ztA ?_; clear H; intro _ _ H _) | fail)
    have hblk := fun ts w => C.block (d + 1) ts w (by omega)
    rw [← hwd] at hblk
    (conv => whnf)
    refine Dr.chX T.ok mixed [0, 1, 2, 3] [4, 5, 6] (by kernel_rfl) rfl rfl (fun w' => Blk w' p5 74 (ET.enc (.mk kd o n nm cb A2 c2 l2))) (PanX R pr w) (fun ch F' w' hds h => by (conv => whnf); rw [show F'.ds = [] from hds]; exact h) (fun w1 eT _ => ?_)
    replace H := H.ext eT
    repeat' ((conv => whnf); first | refine QLd1.own (fun _ hw => hw) ?_ | refine QLd.own (fun _ hw => hw) ?_)
    (conv => whnf)
    refine ⟨H.blk 0 rfl, ?_⟩
    ((conv => whnf); refine Cl.mkX (hblk ts2 _ (H.base2 HB) (H.atC 3 rfl) (Res.bind_out (by rw [← hR]; exact hne))) ?_ ?_; rotate_left; (rintro ch w9 ⟨e9, p9, q9, h9, rfl, H'⟩; exact ⟨e9, p9, q9, (by rw [hR, h9]; rfl), rfl, Hp.pan H H' (.inl rfl)⟩))
    rintro _ w4 ⟨B, cB, b, ts3, h3, rfl, H'⟩
    replace H := H.updn (c := rdr src pr ts2) (Hp.swap H') rfl (.inl rfl) (.inl rfl)
    clear H'
    rw [h3, Res.bind_ok] at hR
    (conv => whnf)
    refine ⟨H.blk 1 rfl, ?_⟩
    repeat' (first | refine ⟨H.blk 1 rfl, ?_⟩ | ((conv => whnf); first | refine ztT ?_ | (refine ztB ?_ ?_ <;> intro _ <;> try (exfalso; omega)) | (refine ztA ?_; clear H; intro _ _ H _) | fail))
    refine ⟨.mk 5 [] (.mk kd o n nm cb A2 c2 l2) B cB b none 0 [], ts3, hR, sm_v rfl, Hp.stsN 5 [] ?_⟩
    replace H := Hp.stl0 H
    exact H.sel [3, 1, 0, 2] rfl
  have hp : t0.kind = k_let ∨ t0.kind = k_spawn ∨ t0.kind = k_sync ∨ t0.kind = k_do ∨ t0.kind = k_return ∨ t0.kind = k_break ∨ t0.kind = k_continue ∨ t0.kind = k_name := by
    rcases begins_or hbg with h | h | h | h | h | h | h | h | h | h <;> first | exact absurd h c1 | exact absurd h c2 | simp [h]
  rcases hp with c3 | c3 | c3 | c3 | c3 | c3 | c3 | c3
  all_goals
    repeat' ((conv => whnf); first | refine ztT ?_ | (refine ztB ?_ ?_ <;> intro _ <;> try (exfalso; omega)) | (refine ztA ?_; clear H; intro _ _ H _) | fail)
    (replace H := Hp.toR H hn0 hr0)
    (((conv => whnf); refine Cl.mkX (deep_c _ src pr (t0 :: r0) (d) rfl _ (H.atC 1 rfl)) ?_ ?_; rotate_left; (rintro ch w9 ⟨e9, p9, q9, h9, rfl, H'⟩; exact ⟨e9, p9, q9, (by rw [hR, h9]; rfl), rfl, Hp.pan H H' (.inl rfl)⟩)); rintro _ w8 ⟨h1, ex⟩; replace H := H.ext ex; clear ex; have hd40 := deep_le h1; rw [h1, Res.bind_ok] at hR; clear h1)
    rw [if_neg (show ¬ curK (t0 :: r0) = k_if from c1), if_neg (show ¬ curK (t0 :: r0) = k_while from c2)] at hR
    obtain ⟨nx1, t1, r1, h01, hn1, hr1, hb0⟩ := H.atC (c := rdr src pr (t0 :: r0)) 1 rfl
    obtain ⟨rfl, rfl⟩ := List.cons.inj h01
    replace H := Hp.ofR H hb0
    repeat' ((conv => whnf); first | refine ztT ?_ | (refine ztB ?_ ?_ <;> intro _ <;> try (exfalso; omega)) | (refine ztA ?_; clear H; intro _ _ H _) | fail)
    replace H := Hp.toR H hn1 hr1
    ((conv => whnf); refine Cl.mkX (plain_c X C d (t0 :: r0) _ hd (H.base2 HB) (H.atC 1 rfl) hbg (Res.bind_out (by rw [← hR]; exact hne))) ?_ ?_; rotate_left; (rintro ch w9 ⟨e9, p9, q9, h9, rfl, H'⟩; exact ⟨e9, p9, q9, (by rw [hR, h9]; rfl), rfl, Hp.pan H H' (.inl rfl)⟩))
    rintro _ w3 ⟨⟨kd, nm, ⟨k1, o1, n1, a1, b1, A1, c1, l1⟩, B, cb, b, E, ce, f⟩, ts1, h1, rfl, H'⟩
    replace H := H.updn (c := rdr src pr (t0 :: r0)) (Hp.swap H') rfl (.inl rfl) (.inl rfl)
    clear H'
    rw [h1, Res.bind_ok] at hR
    repeat' ((conv => whnf); first | refine ztT ?_ | (refine ztB ?_ ?_ <;> intro _ <;> try (exfalso; omega)) | (refine ztW ?_; clear H; intro _ _ H _) | fail)
    ((conv => whnf); refine Al.hp H ?_; clear H; intro p6 _ H _)
    repeat' ((conv => whnf); first | refine ztT ?_ | (refine ztB ?_ ?_ <;> intro _ <;> try (exfalso; omega)) | (refine ztA ?_; clear H; intro _ _ H _) | fail)
    (((conv => whnf); refine Cl.mkX (take_c s_semi src pr (ts1) wb _ (H.base2 HB) X.lo X.tb X.len (H.atC 3 rfl) (by decide)) ?_ ?_; rotate_left; (rintro ch w9 ⟨e9, p9, q9, h9, rfl, H'⟩; exact ⟨e9, p9, q9, (by rw [hR, h9]; rfl), rfl, Hp.pan H H' (.inl rfl)⟩)); rintro _ w8 ⟨t9, ts9, h1, rfl, H'⟩; replace H := H.upd (c := rdr src pr (ts1)) H' rfl (.inl rfl); clear H'; rw [h1, Res.bind_ok] at hR; clear h1)
    repeat' ((conv => whnf); first | refine ztT ?_ | (refine ztB ?_ ?_ <;> intro _ <;> try (exfalso; omega)) | (refine ztA ?_; clear H; intro _ _ H _) | fail)
    exact ⟨.mk kd nm (.mk k1 o1 n1 a1 b1 A1 c1 l1) B cb b E ce f, ts9, hR, sm_v rfl, H.sel [1, 2] rfl⟩
end
end Go.Proofs.YtfnjodpehomgfaaGreatDoor
namespace Go.Proofs.YtfnjodpehomgfaaGreatDoor
open Go Go.Sh Go.Tx
attribute [local irreducible] Blk Ext RdS
section
variable {src : Bs} {pr : Nat} {wb : World} {F : PF} (X : Txt src pr wb) (C : Con src pr wb F)
include X C
set_option maxHeartbeats 4000000 in
theorem block_c (d : Nat) (ts : List Tk) (w : World) (hd : d ≤ 41) (hwb : Ext wb w) (h : Rdr src pr ts w) (hne : blockP F d ts ≠ .out) :
    Cl Tryz.prog 62 #[.pointer (some ⟨pr, 0, none⟩), .int .i64 (d : Int)] w (OkB src pr (blockP F d ts) w) (PanX (blockP F d ts) pr w) := by
  have HB := X.ok hwb
  have hsl := X.len
  obtain ⟨R, hR⟩ : ∃ R, R = blockP F d ts := ⟨_, rfl⟩
  rw [← hR] at hne ⊢
  unfold blockP at hR
  refine calls_ex (args := [.pointer (some ⟨pr, 0, none⟩), .int .i64 (d : Int)]) T.ok Tryz.func62 rfl rfl rfl rfl ?_
  have H := Hp.start (S := (· = pr)) (rdr_ok h) (fun k hk => hk)
  clear h
  repeat' ((conv => whnf); first | refine ztT ?_ | (refine ztB ?_ ?_ <;> intro _ <;> try (exfalso; omega)) | (refine ztA ?_; clear H; intro _ _ H _) | fail)
  (((conv => whnf); refine Cl.mkX (take_c s_lb src pr (ts) wb _ (H.base2 HB) X.lo X.tb X.len (H.atC 0 rfl) (by decide)) ?_ ?_; rotate_left; (rintro ch w9 ⟨e9, p9, q9, h9, rfl, H'⟩; exact ⟨e9, p9, q9, (by rw [hR, h9]; rfl), rfl, Hp.pan H H' (.inl rfl)⟩)); rintro _ w8 ⟨t1, ts1, h1, rfl, H'⟩; replace H := H.upd (c := rdr src pr (ts)) H' rfl (.inl rfl); clear H'; rw [h1, Res.bind_ok] at hR; clear h1)
  have hN : ts1.length ≤ src.length + 2 := (H.atC (c := rdr src pr ts1) 0 rfl).len
  generalize hN0 : ts1.length + 1 = N at hR
  have hNb : N ≤ 1000010 := by omega
  replace H := Hp.nil (Hp.sts0 H) SM.enc 10 76
  repeat' ((conv => whnf); first | refine ztT ?_ | (refine ztB ?_ ?_ <;> intro _ <;> try (exfalso; omega)) | (refine ztA ?_; clear H; intro _ _ H _) | fail)
  refine Lp.g0 T.ok (σ := Nat × Option Addr × Nat × List SM × List Tk) (fun q => [(5, .slice q.2.1 q.2.2.2.1.length q.2.2.1), (4, .slice none 0 0), (0, .pointer (some ⟨pr, 0, none⟩)), (1, .int .i64 (d : Int))])
    (fun q w' => R = (loopB F d q.1 (SM.es q.2.2.2.1) q.2.2.2.2).bind (fun l ts2 => (takeP s_rb ts2).bind fun _ ts3 => .ok l ts3) ∧ q.1 + q.2.2.2.1.length ≤ N ∧ Hp (· = pr) w w' [qu SM.enc 10 76 q.2.1 q.2.2.1 q.2.2.2.1, sts q.2.2.2.1, rdr src pr q.2.2.2.2]) (fun q _ => q.1) (N, none, 0, [], ts1) rfl ⟨rfl, rfl, rfl, rfl, trivial⟩ ⟨hR, Nat.le_refl _, H⟩ ?_
  clear H hR hN0 hN
  rintro ⟨f, A, c, l, ts⟩ w5 ⟨hR, hN, H⟩
  simp only at hR hN H ⊢
  cases f with
  | zero => exact absurd hR hne
  | succ f =>
  simp only [loopB] at hR
  (obtain ⟨nx, t0, r0, rfl, hnx, hr0, hb0⟩ := H.atC (c := rdr src pr ts) 2 rfl; replace H := Hp.ofR H hb0; clear hb0)
  by_cases hk : t0.kind = s_rb
  · rw [if_pos (show curK (t0 :: r0) = s_rb from hk), Res.bind_ok] at hR
    repeat' ((conv => whnf); first | refine ztT ?_ | (refine ztB ?_ ?_ <;> intro _ <;> try (exfalso; omega)) | (refine ztA ?_; clear H; intro _ _ H _) | fail)
    (replace H := Hp.toR H hnx hr0; clear hnx hr0)
    (((conv => whnf); refine Cl.mkX (take_c s_rb src pr (t0 :: r0) wb _ (H.base2 HB) X.lo X.tb X.len (H.atC 2 rfl) (by decide)) ?_ ?_; rotate_left; (rintro ch w9 ⟨e9, p9, q9, h9, rfl, H'⟩; exact ⟨e9, p9, q9, (by rw [hR, h9]; rfl), rfl, Hp.pan H H' (.inl rfl)⟩)); rintro _ w8 ⟨t1, ts1, h1, rfl, H'⟩; replace H := H.upd (c := rdr src pr (t0 :: r0)) H' rfl (.inl rfl); clear H'; rw [h1, Res.bind_ok] at hR; clear h1)
    repeat' ((conv => whnf); first | refine ztT ?_ | (refine ztB ?_ ?_ <;> intro _ <;> try (exfalso; omega)) | (refine ztA ?_; clear H; intro _ _ H _) | fail)
    exact ⟨A, c, l, ts1, hR, rfl, Hp.stlN H⟩
  rw [if_neg (show ¬ curK (t0 :: r0) = s_rb from hk), Res.bind_assoc] at hR
  repeat' ((conv => whnf); first | refine ztT ?_ | (refine ztB ?_ ?_ <;> intro _ <;> try (exfalso; omega)) | (refine ztA ?_; clear H; intro _ _ H _) | fail)
  (replace H := Hp.toR H hnx hr0; clear hnx hr0)
  ((conv => whnf); refine Cl.mkX (statement_c X C d (t0 :: r0) _ hd (H.base2 HB) (H.atC 2 rfl) (Res.bind_out (by rw [← hR]; exact hne))) ?_ ?_; rotate_left; (rintro ch w9 ⟨e9, p9, q9, h9, rfl, H'⟩; exact ⟨e9, p9, q9, (by rw [hR, h9]; rfl), rfl, Hp.pan H H' (.inl rfl)⟩))
  rintro _ w3 ⟨⟨kd, nm, ⟨k1, o1, n1, a1, b1, A1, c1, l1⟩, B, cb, b, E, ce, el⟩, ts2, h2, rfl, H'⟩
  replace H := H.updn (c := rdr src pr (t0 :: r0)) (Hp.swap H') rfl (.inl rfl) (.inl rfl)
  clear H'
  rw [h2, Res.bind_ok] at hR
  refine Sm.lith (cs := SM.enc (.mk kd nm (.mk k1 o1 n1 a1 b1 A1 c1 l1) B cb b E ce el)) H T.ok (fun p5 w4 H _ => ?_)
  refine Sm.ap1 (enc := SM.enc) (.mk kd nm (.mk k1 o1 n1 a1 b1 A1 c1 l1) B cb b E ce el) H T.ok ?_ ?_ (fun A' c' w6 H => ?_)
  · show (l.length + 1) * 152 ≤ _; omega
  · omega
  simp only [List.cons_append, List.nil_append] at H
  repeat' ((conv => whnf); first | refine ztT ?_ | (refine ztB ?_ ?_ <;> intro _ <;> try (exfalso; omega)) | (refine ztA ?_; clear H; intro _ _ H _) | fail)
  refine ⟨(f, A', c', l ++ [.mk kd nm (.mk k1 o1 n1 a1 b1 A1 c1 l1) B cb b E ce el], ts2), ⟨at_val rfl (by simp), rfl, rfl, rfl, trivial⟩, rfl, ⟨?_, ?_, ?_⟩, Nat.lt_succ_self f⟩
  · rw [hR, SM.es_app]; rfl
  · simp only [List.length_append, List.length_cons, List.length_nil]; omega
  · exact Hp.swap (Hp.stsS (H.sel [0, 1, 0, 0] rfl))
set_option maxHeartbeats 4000000 in
theorem choice_c (d : Nat) (ts : List Tk) (w : World) (hd : d ≤ 40) (hwb : Ext wb w) (h : Rdr src pr ts w) (hne : choiceP F d ts ≠ .out) :
    Cl Tryz.prog 110 #[.pointer (some ⟨pr, 0, none⟩), .int .i64 (d : Int)] w (OkS src pr (choiceP F d ts) w) (PanX (choiceP F d ts) pr w) := by
  have HB := X.ok hwb
  have hwd : IntKind.i64.wrap ((d : Int) + 1) = ((d + 1 : Nat) : Int) := w64 rfl (by omega) (by omega)
  have hblk := fun ts w => C.block (d + 1) ts w (by omega)
  rw [← hwd] at hblk
  have hcho := fun ts w => C.choice (d + 1) ts w
  rw [← hwd] at hcho
  obtain ⟨R, hR⟩ : ∃ R, R = choiceP F d ts := ⟨_, rfl⟩
  rw [← hR] at hne ⊢
  unfold choiceP at hR
  refine calls_ex (args := [.pointer (some ⟨pr, 0, none⟩), .int .i64 (d : Int)]) T.ok Tryz.func110 rfl rfl rfl rfl ?_
  have H := Hp.start (S := (· = pr)) (rdr_ok h) (fun k hk => hk)
  clear h
  refine Sq.mk ?_
  ((conv => whnf); refine Al.hp H ?_; clear H; intro p4 _ H _)
  repeat' ((conv => whnf); first | refine ztT ?_ | (refine ztB ?_ ?_ <;> intro _ <;> try (exfalso; omega)) | (refine ztA ?_; clear H; intro _ _ H _) | fail)
  (((conv => whnf); refine Cl.mkX (take_c k_if src pr (ts) wb _ (H.base2 HB) X.lo X.tb X.len (H.atC 1 rfl) (by decide)) ?_ ?_; rotate_left; (rintro ch w9 ⟨e9, p9, q9, h9, rfl, H'⟩; exact ⟨e9, p9, q9, (by rw [hR, h9]; rfl), rfl, Hp.pan H H' (.inl rfl)⟩)); rintro _ w8 ⟨t1, ts1, h1, rfl, H'⟩; replace H := H.upd (c := rdr src pr (ts)) H' rfl (.inl rfl); clear H'; rw [h1, Res.bind_ok] at hR; clear h1)
  repeat' ((conv => whnf); first | refine ztT ?_ | (refine ztB ?_ ?_ <;> intro _ <;> try (exfalso; omega)) | (refine ztA ?_; clear H; intro _ _ H _) | fail)
  ((conv => whnf); refine Cl.mkX (C.expr 0 d ts1 _ (by omega) (by omega) (H.base2 HB) (H.atC 1 rfl) (Res.bind_out (by rw [← hR]; exact hne))) ?_ ?_; rotate_left; (rintro ch w9 ⟨e9, p9, q9, h9, rfl, H'⟩; exact ⟨e9, p9, q9, (by rw [hR, h9]; rfl), rfl, Hp.pan H H' (.inl rfl)⟩))
  rintro _ w3 ⟨⟨kd, o, n, nm, cb, A2, c2, l2⟩, ts2, h2, rfl, H'⟩
  replace H := H.updn (c := rdr src pr ts1) (Hp.swap H') rfl (.inl rfl) (.inl rfl)
  clear H'
  rw [h2, Res.bind_ok] at hR
  repeat' ((conv => whnf); first | refine ztT ?_ | (refine ztB ?_ ?_ <;> intro _ <;> try (exfalso; omega)) | (refine ztW ?_; clear H; intro _ _ H _) | fail)
  ((conv => whnf); refine Al.hp H ?_; clear H; intro p5 _ H _)
  repeat' ((conv => whnf); first | refine ztT ?_ | (refine ztB ?_ ?_ <;> intro _ <;> try (exfalso; omega)) | (refine ztA ?_; clear H; intro _ _ H _) | fail)
  ((conv => whnf); refine Cl.mkX (hblk ts2 _ (H.base2 HB) (H.atC 3 rfl) (Res.bind_out (by rw [← hR]; exact hne))) ?_ ?_; rotate_left; (rintro ch w9 ⟨e9, p9, q9, h9, rfl, H'⟩; exact ⟨e9, p9, q9, (by rw [hR, h9]; rfl), rfl, Hp.pan H H' (.inl rfl)⟩))
  rintro _ w4 ⟨B, cB, b, ts3, h3, rfl, H'⟩
  replace H := H.updn (c := rdr src pr ts2) (Hp.swap H') rfl (.inl rfl) (.inl rfl)
  clear H'
  rw [h3, Res.bind_ok] at hR
  repeat' ((conv => whnf); first | refine ztT ?_ | (refine ztB ?_ ?_ <;> intro _ <;> try (exfalso; omega)) | (refine ztW ?_; clear H; intro _ _ H _) | fail)
  (obtain ⟨nx3, t3, r3, rfl, hn3, hr3, hb0⟩ := H.atC (c := rdr src pr ts3) 4 rfl; replace H := Hp.ofR H hb0; clear hb0)
  by_cases hel : t3.kind = k_else
  case neg =>
    rw [if_pos (show curK (t3 :: r3) ≠ k_else from hel)] at hR
    repeat' ((conv => whnf); first | refine ztT ?_ | (refine ztB ?_ ?_ <;> intro _ <;> try (exfalso; omega)) | (refine ztA ?_; clear H; intro _ _ H _) | fail)
    (replace H := Hp.toR H hn3 hr3)
    replace H := Hp.stl0 H
    refine ⟨.mk 4 [] (.mk kd o n nm cb A2 c2 l2) B cB b none 0 [], t3 :: r3, hR, sm_v rfl, Hp.stsN 4 [] ?_⟩
    exact H.sel [3, 1, 0, 2] rfl
  rw [if_neg (show ¬ curK (t3 :: r3) ≠ k_else from fun e => e hel)] at hR
  repeat' ((conv => whnf); first | refine ztT ?_ | (refine ztB ?_ ?_ <;> intro _ <;> try (exfalso; omega)) | (refine ztA ?_; clear H; intro _ _ H _) | fail)
  (replace H := Hp.toR H hn3 hr3)
  (((conv => whnf); refine Cl.mkX (step_c _ src pr (t3 :: r3) wb _ (H.base2 HB) X.lo X.tb X.len (H.atC 4 rfl) (by rw [curK_cons, hel]; decide)) ?_ ?_; rotate_left; (rintro ch w9 ⟨e9, p9, q9, h9, rfl, H'⟩; exact ⟨e9, p9, q9, (by rw [hR, h9]; rfl), rfl, Hp.pan H H' (.inl rfl)⟩)); rintro _ w8 ⟨ts4, h1, H'⟩; replace H := H.upd (c := rdr src pr (t3 :: r3)) H' rfl (.inl rfl); clear H'; rw [h1, Res.bind_ok] at hR; clear h1)
  (obtain ⟨nx4, t4, r4, rfl, hn4, hr4, hb0⟩ := H.atC (c := rdr src pr ts4) 4 rfl; replace H := Hp.ofR H hb0; clear hb0)
  by_cases hi : t4.kind = k_if
  · rw [if_pos (show curK (t4 :: r4) = k_if from hi)] at hR
    repeat' ((conv => whnf); first | refine ztT ?_ | (refine ztB ?_ ?_ <;> intro _ <;> try (exfalso; omega)) | (refine ztA ?_; clear H; intro _ _ H _) | fail)
    (replace H := Hp.toR H hn4 hr4)
    (((conv => whnf); refine Cl.mkX (deep_c _ src pr (t4 :: r4) (d + 1) hwd _ (H.atC 4 rfl)) ?_ ?_; rotate_left; (rintro ch w9 ⟨e9, p9, q9, h9, rfl, H'⟩; exact ⟨e9, p9, q9, (by rw [hR, h9]; rfl), rfl, Hp.pan H H' (.inl rfl)⟩)); rintro _ w8 ⟨h1, ex⟩; replace H := H.ext ex; clear ex; have hd40 := deep_le h1; rw [h1, Res.bind_ok] at hR; clear h1)
    repeat' ((conv => whnf); first | refine ztT ?_ | (refine ztB ?_ ?_ <;> intro _ <;> try (exfalso; omega)) | (refine ztA ?_; clear H; intro _ _ H _) | fail)
    replace H := Hp.nil (Hp.sts0 H) SM.enc 10 76
    (conv => whnf)
    refine Dr.chX T.ok mixed [0, 1, 2, 3, 4, 8] [5, 6, 7, 9] (by kernel_rfl) rfl rfl (fun w' => Blk w' p5 76 (SM.enc (.mk 4 [] (.mk kd o n nm cb A2 c2 l2) B cB b none 0 []))) (PanX R pr w) (fun ch F' w' hds h => by (conv => whnf); rw [show F'.ds = [] from hds]; exact h) (fun w1 eT _ => ?_)
    replace H := H.ext eT
    repeat' ((conv => whnf); first | refine QLd1.own (fun _ hw => hw) ?_ | refine QLd.own (fun _ hw => hw) ?_)
    (conv => whnf)
    refine ⟨H.blk 3 rfl, ?_⟩
    ((conv => whnf); refine Cl.mkX (hcho (t4 :: r4) _ (by omega) (H.base2 HB) (H.atC 6 rfl) (Res.bind_out (by rw [← hR]; exact hne))) ?_ ?_; rotate_left; (rintro ch w9 ⟨e9, p9, q9, h9, rfl, H'⟩; exact ⟨e9, p9, q9, (by rw [hR, h9]; rfl), rfl, Hp.pan H H' (.inl rfl)⟩))
    rintro _ w5 ⟨⟨kd2, nm2, ⟨k1, o1, n1, a1, b1, A1, c1, l1⟩, B2, cb2, b2, E2, ce2, el2⟩, ts5, h5, rfl, H'⟩
    replace H := H.updn (c := rdr src pr (t4 :: r4)) (Hp.swap H') rfl (.inl rfl) (.inl rfl)
    clear H'
    rw [h5, Res.bind_ok] at hR
    (conv => whnf)
    refine ⟨H.blk 4 rfl, ?_⟩
    refine Sm.lith (cs := SM.enc (.mk kd2 nm2 (.mk k1 o1 n1 a1 b1 A1 c1 l1) B2 cb2 b2 E2 ce2 el2)) H T.ok (fun p6 w6 H _ => ?_)
    (conv => whnf)
    refine ⟨H.blk 5 rfl, ?_⟩
    refine Sm.ap1 (enc := SM.enc) (.mk kd2 nm2 (.mk k1 o1 n1 a1 b1 A1 c1 l1) B2 cb2 b2 E2 ce2 el2) H T.ok ?_ ?_ (fun A' c' w7 H => ?_)
    · show (0 + 1) * 152 ≤ _; omega
    · show 0 + 1 ≤ _; omega
    simp only [List.cons_append, List.nil_append] at H
    (conv => whnf)
    refine ⟨H.blk 4 rfl, ?_⟩
    repeat' ((conv => whnf); first | refine ztT ?_ | (refine ztB ?_ ?_ <;> intro _ <;> try (exfalso; omega)) | (refine ztA ?_; clear H; intro _ _ H _) | fail)
    refine ⟨.mk 4 [] (.mk kd o n nm cb A2 c2 l2) B cB b A' c' [.mk kd2 nm2 (.mk k1 o1 n1 a1 b1 A1 c1 l1) B2 cb2 b2 E2 ce2 el2], ts5, hR, sm_v rfl, Hp.stsN 4 [] ?_⟩
    exact (Hp.stlN (Hp.swap (Hp.stsS (l := []) (H.sel [0, 1, 0, 0, 1, 2] rfl)))).sel [2, 1, 0, 0] rfl
  rw [if_neg (show ¬ curK (t4 :: r4) = k_if from hi)] at hR
  repeat' ((conv => whnf); first | refine ztT ?_ | (refine ztB ?_ ?_ <;> intro _ <;> try (exfalso; omega)) | (refine ztA ?_; clear H; intro _ _ H _) | fail)
  (replace H := Hp.toR H hn4 hr4)
  ((conv => whnf); refine Cl.mkX (hblk (t4 :: r4) _ (H.base2 HB) (H.atC 4 rfl) (Res.bind_out (by rw [← hR]; exact hne))) ?_ ?_; rotate_left; (rintro ch w9 ⟨e9, p9, q9, h9, rfl, H'⟩; exact ⟨e9, p9, q9, (by rw [hR, h9]; rfl), rfl, Hp.pan H H' (.inl rfl)⟩))
  rintro _ w5 ⟨E, cE, el, ts5, h5, rfl, H'⟩
  replace H := H.updn (c := rdr src pr (t4 :: r4)) (Hp.swap H') rfl (.inl rfl) (.inl rfl)
  clear H'
  rw [h5, Res.bind_ok] at hR
  repeat' ((conv => whnf); first | refine ztT ?_ | (refine ztB ?_ ?_ <;> intro _ <;> try (exfalso; omega)) | (refine ztA ?_; clear H; intro _ _ H _) | fail)
  refine ⟨.mk 4 [] (.mk kd o n nm cb A2 c2 l2) B cB b E cE el, ts5, hR, sm_v rfl, Hp.stsN 4 [] ?_⟩
  exact H.sel [3, 1, 0, 2] rfl
end
end Go.Proofs.YtfnjodpehomgfaaGreatDoor
namespace Go.Proofs.YtfnjodpehomgfaaGreatDoor
open Go Go.Sh Go.Tx
attribute [local irreducible] Blk Ext RdS
structure FM where
  name : Bs
  P : Option Addr
  cp : Nat
  params : List Bs
  B : Option Addr
  cb : Nat
  body : List SM
def FM.e (f : FM) : Fnc := ⟨f.name, f.params, SM.es f.body⟩
def FM.enc (f : FM) : List Value := [.string (bs f.name), .slice f.P f.params.length f.cp, .slice f.B f.body.length f.cb]
def FM.v (f : FM) : Value := .agg f.enc.toArray
def FM.fp (f : FM) (k : Nat) : Prop := obk f.P = some k ∨ obk f.B = some k ∨ SM.fps f.body k
def FM.Ok (w : World) (f : FM) : Prop := Que strE 1 9 w 0 f.P f.cp f.params ∧ Que SM.enc 10 76 w 0 f.B f.cb f.body ∧ SM.Oks w f.body ∧ f.params.length ≤ 2000000 ∧ f.body.length ≤ 2000000
def FM.Sep (f : FM) : Prop := SM.Seps f.body ∧ (∀ k, ¬ (obk f.P = some k ∧ (obk f.B = some k ∨ SM.fps f.body k))) ∧ ∀ k, ¬ (obk f.B = some k ∧ SM.fps f.body k)
def FM.fps : List FM → Nat → Prop
  | [], _ => False
  | x :: r, k => FM.fp x k ∨ FM.fps r k
def FM.Oks (w : World) : List FM → Prop
  | [] => True
  | x :: r => FM.Ok w x ∧ FM.Oks w r
def FM.Seps : List FM → Prop
  | [] => True
  | x :: r => FM.Sep x ∧ FM.Seps r ∧ ∀ b, ¬ (FM.fp x b ∧ FM.fps r b)
theorem FM.fps_app (b : Nat) : ∀ l m : List FM, FM.fps (l ++ m) b ↔ FM.fps l b ∨ FM.fps m b
  | [], m => by simp [FM.fps]
  | x :: r, m => by simp [FM.fps, FM.fps_app b r m, or_assoc]
theorem FM.oks_app (w : World) : ∀ l m : List FM, FM.Oks w (l ++ m) ↔ FM.Oks w l ∧ FM.Oks w m
  | [], m => by simp [FM.Oks]
  | x :: r, m => by simp [FM.Oks, FM.oks_app w r m, and_assoc]
theorem FM.seps_app : ∀ l m : List FM, FM.Seps l → FM.Seps m → (∀ b, ¬ (FM.fps l b ∧ FM.fps m b)) → FM.Seps (l ++ m)
  | [], m, _, h, _ => h
  | x :: r, m, hl, hm, hd => by
    obtain ⟨h1, h2, h3⟩ := hl
    refine ⟨h1, FM.seps_app r m h2 hm fun b hb => hd b ⟨.inr hb.1, hb.2⟩, fun b hb => ?_⟩
    rcases (FM.fps_app b r m).1 hb.2 with h | h
    · exact h3 b ⟨hb.1, h⟩
    · exact hd b ⟨.inl hb.1, h⟩
theorem FM.Ok.lt {w : World} {f : FM} (h : FM.Ok w f) (k : Nat) (hk : FM.fp f k) : k < w.heap.size := by
  rcases hk with hk | hk | hk
  · exact (qu_ok h.1).lt k hk
  · exact (qu_ok h.2.1).lt k hk
  · exact SM.Oks.lt h.2.2.1 k hk
theorem FM.Oks.lt {w : World} : ∀ {l : List FM}, FM.Oks w l → ∀ b, FM.fps l b → b < w.heap.size
  | [], _, b, hb => hb.elim
  | x :: r, h, b, hb => by
    rcases hb with hb | hb
    · exact FM.Ok.lt h.1 b hb
    · exact FM.Oks.lt h.2 b hb
theorem FM.Ok.loc {w w' : World} (hs : w.heap.size ≤ w'.heap.size) {f : FM} (h : FM.Ok w f) (hb : ∀ b, FM.fp f b → w'.heap[b]? = w.heap[b]?) : FM.Ok w' f :=
  ⟨(qu_ok h.1).loc w' hs fun k hk => hb k (.inl hk), (qu_ok h.2.1).loc w' hs fun k hk => hb k (.inr (.inl hk)), SM.Oks.loc hs h.2.2.1 fun k hk => hb k (.inr (.inr hk)), h.2.2.2⟩
theorem FM.Oks.loc {w w' : World} (hs : w.heap.size ≤ w'.heap.size) : ∀ {l : List FM}, FM.Oks w l → (∀ b, FM.fps l b → w'.heap[b]? = w.heap[b]?) → FM.Oks w' l
  | [], _, _ => trivial
  | x :: r, h, hb => ⟨FM.Ok.loc hs h.1 fun b hk => hb b (.inl hk), FM.Oks.loc hs h.2 fun b hk => hb b (.inr hk)⟩
abbrev fns (l : List FM) : Ck := ⟨FM.fps l, fun w => FM.Oks w l ∧ FM.Seps l, true, false⟩
theorem fns_ok {l : List FM} {w : World} (h1 : FM.Oks w l) (h2 : FM.Seps l) : (fns l).Ok w :=
  ⟨⟨h1, h2⟩, FM.Oks.lt h1, fun w' hs hb => ⟨FM.Oks.loc hs h1 hb, h2⟩⟩
section
variable {S : Nat → Prop} {w0 w : World} {Γ : List Ck}
theorem Hp.fns0 (H : Hp S w0 w Γ) : Hp S w0 w (fns [] :: Γ) :=
  H.fr0 (Hp.one (Tch.refl _ _) (fns_ok trivial trivial) (fun k hk => hk.elim)) (.inl rfl)
theorem Hp.fnsS {l : List FM} {t : FM} (H : Hp S w0 w (fns [t] :: fns l :: Γ)) : Hp S w0 w (fns (l ++ [t]) :: Γ) := by
  refine Hp.join2 H rfl rfl (.inl rfl) (fun k hk => ?_) (fun hd h1 h2 => fns_ok ((FM.oks_app w l [t]).2 ⟨h2.holds.1, h1.holds.1⟩) (FM.seps_app _ _ h2.holds.2 h1.holds.2 fun b hb => hd b ⟨hb.2, hb.1⟩))
  rcases (FM.fps_app k l [t]).1 hk with h | h
  · exact .inr h
  · exact .inl h
theorem Hp.fnsN {P B : Option Addr} {cp cb : Nat} {ps : List Bs} {b : List SM} (nm : Bs) (H : Hp S w0 w (qu strE 1 9 P cp ps :: stl B cb b :: Γ)) (hlen : ps.length ≤ 2000000 := by first | (simp; done) | omega | assumption) : Hp S w0 w (fns [⟨nm, P, cp, ps, B, cb, b⟩] :: Γ) := by
  refine Hp.join2 H rfl rfl (.inl rfl) (fun k hk => ?_) (fun hd h1 h2 => fns_ok ⟨⟨h1.holds, h2.holds.1, h2.holds.2.1, hlen, h2.holds.2.2.2.2⟩, trivial⟩ ⟨⟨h2.holds.2.2.1, hd, h2.holds.2.2.2.1⟩, trivial, fun b hb => hb.2.elim⟩)
  rcases hk with (hk | hk | hk) | hk
  · exact .inl hk
  · exact .inr (.inl hk)
  · exact .inr (.inr hk)
  · exact hk.elim
end
theorem con_all {src : Bs} {pr : Nat} {wb : World} (X : Txt src pr wb) : ∀ f, Con src pr wb (pf f)
  | 0 => ⟨fun _ _ _ _ _ _ _ _ h => absurd rfl h, fun _ _ _ _ _ _ h => absurd rfl h, fun _ _ _ _ _ _ h => absurd rfl h, fun _ _ _ _ _ _ h => absurd rfl h, fun _ _ _ _ _ _ h => absurd rfl h⟩
  | f + 1 => ⟨expr_c X (con_all X f), unary_c X (con_all X f), primary_c X (con_all X f), block_c X (con_all X f), choice_c X (con_all X f)⟩
def OkF (src : Bs) (pr : Nat) (R : Res Fnc) (w : World) (v : Value) (w' : World) : Prop := ∃ f ts', R = .ok (FM.e f) ts' ∧ v = f.v ∧ Hp (· = pr) w w' [fns [f], rdr src pr ts']
theorem fm_v {v : Value} {nm : Bs} {P B : Option Addr} {cp cb : Nat} {ps : List Bs} {b : List SM} (h : v = .agg #[.string (bs nm), .slice P ps.length cp, .slice B b.length cb]) : v = FM.v ⟨nm, P, cp, ps, B, cb, b⟩ := h
section
variable {src : Bs} {pr : Nat} {wb : World} {F : PF} (X : Txt src pr wb) (C : Con src pr wb F)
include X C
set_option maxHeartbeats 4000000 in
theorem function_c (ts : List Tk) (w : World) (hwb : Ext wb w) (h : Rdr src pr ts w) (hne : functionP F ts ≠ .out) :
    Cl Tryz.prog 34 #[.pointer (some ⟨pr, 0, none⟩)] w (OkF src pr (functionP F ts) w) (PanX (functionP F ts) pr w) := by
  have HB := X.ok hwb
  have hsl := X.len
  obtain ⟨R, hR⟩ : ∃ R, R = functionP F ts := ⟨_, rfl⟩
  rw [← hR] at hne ⊢
  unfold functionP at hR
  refine calls_ex (args := [.pointer (some ⟨pr, 0, none⟩)]) T.ok Tryz.func34 rfl rfl rfl rfl ?_
  have H := Hp.start (S := (· = pr)) (rdr_ok h) (fun k hk => hk)
  clear h
  refine Sq.mk ?_
  ((conv => whnf); refine Al.hp H ?_; clear H; intro p2 _ H _)
  repeat' ((conv => whnf); first | refine ztT ?_ | (refine ztB ?_ ?_ <;> intro _ <;> try (exfalso; omega)) | (refine ztA ?_; clear H; intro _ _ H _) | fail)
  (((conv => whnf); refine Cl.mkX (take_c k_fn src pr (ts) wb _ (H.base2 HB) X.lo X.tb X.len (H.atC 1 rfl) (by decide)) ?_ ?_; rotate_left; (rintro ch w9 ⟨e9, p9, q9, h9, rfl, H'⟩; exact ⟨e9, p9, q9, (by rw [hR, h9]; rfl), rfl, Hp.pan H H' (.inl rfl)⟩)); rintro _ w8 ⟨t1, ts1, h1, rfl, H'⟩; replace H := H.upd (c := rdr src pr (ts)) H' rfl (.inl rfl); clear H'; rw [h1, Res.bind_ok] at hR; clear h1)
  repeat' ((conv => whnf); first | refine ztT ?_ | (refine ztB ?_ ?_ <;> intro _ <;> try (exfalso; omega)) | (refine ztA ?_; clear H; intro _ _ H _) | fail)
  (((conv => whnf); refine Cl.mkX (take_c k_name src pr (ts1) wb _ (H.base2 HB) X.lo X.tb X.len (H.atC 1 rfl) (by decide)) ?_ ?_; rotate_left; (rintro ch w9 ⟨e9, p9, q9, h9, rfl, H'⟩; exact ⟨e9, p9, q9, (by rw [hR, h9]; rfl), rfl, Hp.pan H H' (.inl rfl)⟩)); rintro _ w8 ⟨t2, ts2, h1, rfl, H'⟩; replace H := H.upd (c := rdr src pr (ts1)) H' rfl (.inl rfl); clear H'; rw [h1, Res.bind_ok] at hR; clear h1)
  repeat' ((conv => whnf); first | refine ztT ?_ | (refine ztB ?_ ?_ <;> intro _ <;> try (exfalso; omega)) | (refine ztW ?_; clear H; intro _ _ H _) | fail)
  ((conv => whnf); refine Al.hp H ?_; clear H; intro p3 _ H _)
  repeat' ((conv => whnf); first | refine ztT ?_ | (refine ztB ?_ ?_ <;> intro _ <;> try (exfalso; omega)) | (refine ztA ?_; clear H; intro _ _ H _) | fail)
  (((conv => whnf); refine Cl.mkX (take_c s_lp src pr (ts2) wb _ (H.base2 HB) X.lo X.tb X.len (H.atC 2 rfl) (by decide)) ?_ ?_; rotate_left; (rintro ch w9 ⟨e9, p9, q9, h9, rfl, H'⟩; exact ⟨e9, p9, q9, (by rw [hR, h9]; rfl), rfl, Hp.pan H H' (.inl rfl)⟩)); rintro _ w8 ⟨t3, ts3, h1, rfl, H'⟩; replace H := H.upd (c := rdr src pr (ts2)) H' rfl (.inl rfl); clear H'; rw [h1, Res.bind_ok] at hR; clear h1)
  have hN : ts3.length ≤ src.length + 2 := (H.atC (c := rdr src pr ts3) 2 rfl).len
  generalize hN0 : ts3.length + 1 = N at hR
  have hNb : N ≤ 1000010 := by omega
  replace H := Hp.nil H strE 1 9
  have hfix : ∀ w', Hp (· = pr) w w' [qu strE 1 9 none 0 [], bk p3 34 [.string (bs t2.text), .slice none 0 0, .slice none 0 0], bk p2 34 T.t34.zero.cells.toList, rdr src pr ts3] → Hp (· = pr) w w' [qu strE 1 9 none 0 [], bk p3 34 [.string (bs t2.text), .slice none 0 0, .slice none 0 0], bk p2 34 T.t34.zero.cells.toList, rdr src pr ts3] := fun _ h => h
  replace H := hfix _ H
  clear hfix
  repeat' ((conv => whnf); first | refine ztT ?_ | (refine ztB ?_ ?_ <;> intro _ <;> try (exfalso; omega)) | (refine ztA ?_; clear H; intro _ _ H _) | fail)
  refine Lp.g0 T.ok (σ := Nat × Option Addr × Nat × List Bs × List Tk) (fun q => [(3, .pointer (some ⟨p3, 0, none⟩)), (2, .pointer (some ⟨p2, 0, none⟩)), (0, .pointer (some ⟨pr, 0, none⟩))])
    (fun q w' => R = (loopN q.1 q.2.2.2.1 q.2.2.2.2).bind (fun ps ts4 => (takeP s_rp ts4).bind fun _ ts5 => (F.block 1 ts5).bind fun b ts6 => .ok ⟨t2.text, ps, b⟩ ts6) ∧ q.1 + q.2.2.2.1.length ≤ N ∧ Hp (· = pr) w w' [qu strE 1 9 q.2.1 q.2.2.1 q.2.2.2.1, bk p3 34 [.string (bs t2.text), .slice q.2.1 q.2.2.2.1.length q.2.2.1, .slice none 0 0], bk p2 34 T.t34.zero.cells.toList, rdr src pr q.2.2.2.2]) (fun q _ => q.1) (N, none, 0, [], ts3) rfl ⟨rfl, rfl, rfl, trivial⟩ ⟨hR, Nat.le_refl _, H⟩ ?_
  clear H hR hN0 hN
  rintro ⟨f, A, c, l, ts⟩ w5 ⟨hR, hN, H⟩
  simp only at hR hN H ⊢
  cases f with
  | zero => exact absurd hR hne
  | succ f =>
  simp only [loopN] at hR
  (obtain ⟨nx, t0, r0, rfl, hnx, hr0, hb0⟩ := H.atC (c := rdr src pr ts) 3 rfl; replace H := Hp.ofR H hb0; clear hb0)
  by_cases hk : t0.kind = s_rp
  · rw [if_pos (show curK (t0 :: r0) = s_rp from hk), Res.bind_ok] at hR
    repeat' ((conv => whnf); first | refine ztT ?_ | (refine ztB ?_ ?_ <;> intro _ <;> try (exfalso; omega)) | (refine ztA ?_; clear H; intro _ _ H _) | fail)
    (replace H := Hp.toR H hnx hr0; clear hnx hr0)
    (((conv => whnf); refine Cl.mkX (take_c s_rp src pr (t0 :: r0) wb _ (H.base2 HB) X.lo X.tb X.len (H.atC 3 rfl) (by decide)) ?_ ?_; rotate_left; (rintro ch w9 ⟨e9, p9, q9, h9, rfl, H'⟩; exact ⟨e9, p9, q9, (by rw [hR, h9]; rfl), rfl, Hp.pan H H' (.inl rfl)⟩)); rintro _ w8 ⟨t5, ts5, h1, rfl, H'⟩; replace H := H.upd (c := rdr src pr (t0 :: r0)) H' rfl (.inl rfl); clear H'; rw [h1, Res.bind_ok] at hR; clear h1)
    repeat' ((conv => whnf); first | refine ztT ?_ | (refine ztB ?_ ?_ <;> intro _ <;> try (exfalso; omega)) | (refine ztA ?_; clear H; intro _ _ H _) | fail)
    ((conv => whnf); refine Cl.mkX (C.block 1 ts5 _ (by omega) (H.base2 HB) (H.atC 3 rfl) (Res.bind_out (by rw [← hR]; exact hne))) ?_ ?_; rotate_left; (rintro ch w9 ⟨e9, p9, q9, h9, rfl, H'⟩; exact ⟨e9, p9, q9, (by rw [hR, h9]; rfl), rfl, Hp.pan H H' (.inl rfl)⟩))
    rintro _ w6 ⟨B, cB, b, ts6, h6, rfl, H'⟩
    replace H := H.updn (c := rdr src pr ts5) (Hp.swap H') rfl (.inl rfl) (.inl rfl)
    clear H'
    rw [h6, Res.bind_ok] at hR
    repeat' ((conv => whnf); first | refine ztT ?_ | (refine ztB ?_ ?_ <;> intro _ <;> try (exfalso; omega)) | (refine ztA ?_; clear H; intro _ _ H _) | fail)
    exact ⟨⟨t2.text, A, c, l, B, cB, b⟩, ts6, hR, fm_v rfl, Hp.fnsN t2.text (H.sel [1, 0, 2] rfl)⟩
  rw [if_neg (show ¬ curK (t0 :: r0) = s_rp from hk)] at hR
  by_cases hl0 : l.length = 0
  · rw [if_neg (by omega), Res.bind_ok, Res.bind_assoc] at hR
    repeat' ((conv => whnf); first | refine ztT ?_ | (refine ztB ?_ ?_ <;> intro _ <;> try (exfalso; omega)) | (refine ztA ?_; clear H; intro _ _ H _) | fail)
    all_goals first | (exfalso; omega) | skip
    (replace H := Hp.toR H hnx hr0; clear hnx hr0)
    (conv => whnf)
    refine Dr.chX T.ok mixed [0, 1, 2, 7] [3, 4, 5, 6, 8] (by kernel_rfl) rfl rfl (fun w' => Blk w' p3 34 [.string (bs t2.text), .slice A l.length c, .slice none 0 0]) (PanX R pr w) (fun ch F' w' hds h => by (conv => whnf); rw [show F'.ds = [] from hds]; exact h) (fun w1 eT _ => ?_)
    replace H := H.ext eT
    repeat' ((conv => whnf); first | refine QLd1.own (fun _ hw => hw) ?_ | refine QLd.own (fun _ hw => hw) ?_)
    (conv => whnf)
    refine ⟨H.blk 1 rfl, ?_⟩
    (((conv => whnf); refine Cl.mkX (take_c k_name src pr (t0 :: r0) wb _ (H.base2 HB) X.lo X.tb X.len (H.atC 3 rfl) (by decide)) ?_ ?_; rotate_left; (rintro ch w9 ⟨e9, p9, q9, h9, rfl, H'⟩; exact ⟨e9, p9, q9, (by rw [hR, h9]; rfl), rfl, Hp.pan H H' (.inl rfl)⟩)); rintro _ w8 ⟨t6, ts6, h1, rfl, H'⟩; replace H := H.upd (c := rdr src pr (t0 :: r0)) H' rfl (.inl rfl); clear H'; rw [h1, Res.bind_ok] at hR; clear h1)
    (conv => whnf)
    refine ⟨H.blk 1 rfl, ?_⟩
    (conv => whnf)
    refine ⟨H.blk 1 rfl, ?_⟩
    refine Sm.lith (cs := [.string (bs t6.text)]) H T.ok (fun p5 w4 H _ => ?_)
    (conv => whnf)
    refine ⟨H.blk 2 rfl, ?_⟩
    refine Sm.ap1 (enc := strE) t6.text H T.ok ?_ ?_ (fun A' c' w7 H => ?_)
    · show (l.length + 1) * 16 ≤ _; omega
    · omega
    simp only [List.cons_append, List.nil_append] at H
    (conv => whnf)
    refine ⟨H.blk 1 rfl, ?_⟩
    repeat' ((conv => whnf); first | refine ztT ?_ | (refine ztB ?_ ?_ <;> intro _ <;> try (exfalso; omega)) | (refine ztA ?_; clear H; intro _ _ H _) | fail)
    refine ⟨(f, A', c', l ++ [t6.text], ts6), ⟨rfl, rfl, rfl, trivial⟩, rfl, ⟨hR, ?_, ?_⟩, Nat.lt_succ_self f⟩
    · simp only [List.length_append, List.length_cons, List.length_nil]; omega
    · have hl1 : (l ++ [t6.text]).length = l.length + 1 := by simp
      simp only [hl1]
      exact H
  · rw [if_pos hl0] at hR
    replace hR : R = (takeP s_comma (t0 :: r0)).bind fun _ ts1 => (takeP k_name ts1).bind fun t ts2 => (loopN f (l ++ [t.text]) ts2).bind (fun ps ts4 => (takeP s_rp ts4).bind fun _ ts5 => (F.block 1 ts5).bind fun b ts6 => .ok ⟨t2.text, ps, b⟩ ts6) := by
      rw [hR]
      cases takeP s_comma (t0 :: r0) with
      | out => rfl
      | err e p => rfl
      | ok a ts1 => simp only [Res.bind_ok, Res.bind_assoc]
    repeat' ((conv => whnf); first | refine ztT ?_ | (refine ztB ?_ ?_ <;> intro _ <;> try (exfalso; omega)) | (refine ztA ?_; clear H; intro _ _ H _) | fail)
    all_goals first | (exfalso; omega) | skip
    (replace H := Hp.toR H hnx hr0; clear hnx hr0)
    (((conv => whnf); refine Cl.mkX (take_c s_comma src pr (t0 :: r0) wb _ (H.base2 HB) X.lo X.tb X.len (H.atC 3 rfl) (by decide)) ?_ ?_; rotate_left; (rintro ch w9 ⟨e9, p9, q9, h9, rfl, H'⟩; exact ⟨e9, p9, q9, (by rw [hR, h9]; rfl), rfl, Hp.pan H H' (.inl rfl)⟩)); rintro _ w8 ⟨t7, ts7, h1, rfl, H'⟩; replace H := H.upd (c := rdr src pr (t0 :: r0)) H' rfl (.inl rfl); clear H'; rw [h1, Res.bind_ok] at hR; clear h1)
    repeat' ((conv => whnf); first | refine ztT ?_ | (refine ztB ?_ ?_ <;> intro _ <;> try (exfalso; omega)) | (refine ztA ?_; clear H; intro _ _ H _) | fail)
    (conv => whnf)
    refine Dr.chX T.ok mixed [0, 1, 2, 7] [3, 4, 5, 6, 8] (by kernel_rfl) rfl rfl (fun w' => Blk w' p3 34 [.string (bs t2.text), .slice A l.length c, .slice none 0 0]) (PanX R pr w) (fun ch F' w' hds h => by (conv => whnf); rw [show F'.ds = [] from hds]; exact h) (fun w1 eT _ => ?_)
    replace H := H.ext eT
    repeat' ((conv => whnf); first | refine QLd1.own (fun _ hw => hw) ?_ | refine QLd.own (fun _ hw => hw) ?_)
    (conv => whnf)
    refine ⟨H.blk 1 rfl, ?_⟩
    (((conv => whnf); refine Cl.mkX (take_c k_name src pr (ts7) wb _ (H.base2 HB) X.lo X.tb X.len (H.atC 3 rfl) (by decide)) ?_ ?_; rotate_left; (rintro ch w9 ⟨e9, p9, q9, h9, rfl, H'⟩; exact ⟨e9, p9, q9, (by rw [hR, h9]; rfl), rfl, Hp.pan H H' (.inl rfl)⟩)); rintro _ w8 ⟨t6, ts6, h1, rfl, H'⟩; replace H := H.upd (c := rdr src pr (ts7)) H' rfl (.inl rfl); clear H'; rw [h1, Res.bind_ok] at hR; clear h1)
    (conv => whnf)
    refine ⟨H.blk 1 rfl, ?_⟩
    (conv => whnf)
    refine ⟨H.blk 1 rfl, ?_⟩
    refine Sm.lith (cs := [.string (bs t6.text)]) H T.ok (fun p5 w4 H _ => ?_)
    (conv => whnf)
    refine ⟨H.blk 2 rfl, ?_⟩
    refine Sm.ap1 (enc := strE) t6.text H T.ok ?_ ?_ (fun A' c' w7 H => ?_)
    · show (l.length + 1) * 16 ≤ _; omega
    · omega
    simp only [List.cons_append, List.nil_append] at H
    (conv => whnf)
    refine ⟨H.blk 1 rfl, ?_⟩
    repeat' ((conv => whnf); first | refine ztT ?_ | (refine ztB ?_ ?_ <;> intro _ <;> try (exfalso; omega)) | (refine ztA ?_; clear H; intro _ _ H _) | fail)
    refine ⟨(f, A', c', l ++ [t6.text], ts6), ⟨rfl, rfl, rfl, trivial⟩, rfl, ⟨hR, ?_, ?_⟩, Nat.lt_succ_self f⟩
    · simp only [List.length_append, List.length_cons, List.length_nil]; omega
    · have hl1 : (l ++ [t6.text]).length = l.length + 1 := by simp
      simp only [hl1]
      exact H
end
end Go.Proofs.YtfnjodpehomgfaaGreatDoor
namespace Go.Proofs.YtfnjodpehomgfaaGreatDoor
open Go.RowKit Go.Extern.Stop Go.Stop Go.Extern
theorem tas_valueOf27 (t : Addr) (w : World) : (ReflectliteValue.unpack (.iface 61 (.pointer (some t)))).run Tryz.prog w
    = .ok (.agg #[.pointer (some ⟨10, 61, none⟩), .pointer (some ⟨w.heap.size, 0, none⟩), .int .u64 150]) (w.alloc (.cells #[.pointer (some t)] 61)) := by kernel_rfl
theorem tas_type27 (a : Addr) (w : World) : (ReflectliteValue.methodAny (ReflectliteValue.valueError "reflectlite.Value.Type" 0) (fun t _ _ _ => ReflectliteType.toType t) #[.agg #[.pointer (some ⟨10, 61, none⟩), .pointer (some a), .int .u64 150]]).run Tryz.prog w
    = .ok (.iface 137 (.agg #[.pointer (some ⟨10, 61, none⟩)])) w := by kernel_rfl
theorem tas_methodKind (h : Value) (w : World) : (Go.method 330 137 (.agg #[h]) "Kind").run Tryz.prog w = .ok (177, h) w := by kernel_rfl
theorem tas_kind27 (w : World) : ((ReflectliteType.abiMethod fun t => (fun a : Nat => Value.int IntKind.u8 (a : Int)) <$> Rtype.kind t) #[.pointer (some ⟨10, 61, none⟩)]).run Tryz.prog w = .ok (.int .u8 22) w := by kernel_rfl
theorem tas_kind25 (w : World) : ((ReflectliteType.abiMethod fun t => (fun a : Nat => Value.int IntKind.u8 (a : Int)) <$> Rtype.kind t) #[.pointer (some ⟨10, 56, none⟩)]).run Tryz.prog w = .ok (.int .u8 22) w := by kernel_rfl
theorem rlm (z : Sem Value) (f : TypeId → Addr → Nat → Nat → Sem Value) (v : Value) :
    ReflectliteValue.method z f #[v] = (do match ← ReflectliteValue.parts v with | none => z | some (t, a, fl) => f t a fl (fl % 32)) := rfl
theorem tas_parts27 (a : Addr) (w : World) : (ReflectliteValue.parts (.agg #[.pointer (some ⟨10, 61, none⟩), .pointer (some a), .int .u64 150])).run Tryz.prog w = .ok (some (61, a, 150)) w := by kernel_rfl
theorem tas_isNil27 (a p : Addr) (W : World) (ha : W.cell? a = some (.pointer (some p))) :
    (ReflectliteValue.method (ReflectliteValue.valueError "reflectlite.Value.IsNil" 0) ReflectliteValue.isNil #[.agg #[.pointer (some ⟨10, 61, none⟩), .pointer (some a), .int .u64 150]]).run Tryz.prog W = .ok (.bool false) W := by
  rw [rlm]
  simp only [Sem.run_bind, tas_parts27, Result.andThen]
  simp [ReflectliteValue.isNil, loadVar, isAgg, underlying, Tryz.underlying61, ha, Result.andThen]
theorem tas_methodElem (h : Value) (w : World) : (Go.method 330 137 (.agg #[h]) "Elem").run Tryz.prog w = .ok (188, .agg #[h]) w := by kernel_rfl
theorem tas_methodImplements (h : Value) (w : World) : (Go.method 330 137 (.agg #[h]) "Implements").run Tryz.prog w = .ok (189, .agg #[h]) w := by kernel_rfl
theorem tas_methodAssignableTo (h : Value) (w : World) : (Go.method 330 137 (.agg #[h]) "AssignableTo").run Tryz.prog w = .ok (186, .agg #[h]) w := by kernel_rfl
theorem tas_elem27 (w : World) : (ReflectliteType.method ReflectliteType.elem #[.agg #[.pointer (some ⟨10, 61, none⟩)]]).run Tryz.prog w = .ok (.iface 137 (.agg #[.pointer (some ⟨10, 56, none⟩)])) w := by kernel_rfl
theorem tas_implements25 (w : World) : (ReflectliteType.relation "Implements" ReflectliteType.implements_ #[.agg #[.pointer (some ⟨10, 56, none⟩)], .iface 137 (.agg #[.pointer (some ⟨10, 58, none⟩)])]).run Tryz.prog w = .ok (.bool true) w := by kernel_rfl
theorem tas_typeOf25 (v : Value) (w : World) : (ReflectliteType.typeOf #[.iface 56 v]).run Tryz.prog w = .ok (.iface 137 (.agg #[.pointer (some ⟨10, 56, none⟩)])) w := by kernel_rfl
theorem tas_assignable25 (w : World) : (ReflectliteType.relation "AssignableTo" ReflectliteType.assignableTo #[.agg #[.pointer (some ⟨10, 56, none⟩)], .iface 137 (.agg #[.pointer (some ⟨10, 56, none⟩)])]).run Tryz.prog w = .ok (.bool true) w := by kernel_rfl
theorem tas_valueOf25 (e : Addr) (w : World) : (ReflectliteValue.unpack (.iface 56 (.pointer (some e)))).run Tryz.prog w
    = .ok (.agg #[.pointer (some ⟨10, 56, none⟩), .pointer (some ⟨w.heap.size, 0, none⟩), .int .u64 150]) (w.alloc (.cells #[.pointer (some e)] 56)) := by kernel_rfl
theorem tas_elemOf27 (w : World) : (Rtype.elem? 61).run Tryz.prog w = .ok (some 56) w := by kernel_rfl
theorem tas_mk25 (p : Addr) (w : World) : (ReflectliteValue.mk 56 p ReflectliteValue.flagAddr).run Tryz.prog w = .ok (.agg #[.pointer (some ⟨10, 56, none⟩), .pointer (some p), .int .u64 406]) w := by kernel_rfl
theorem tas_elemV27 (a p : Addr) (W : World) (ha : W.cell? a = some (.pointer (some p))) :
    (ReflectliteValue.method (ReflectliteValue.valueError "reflectlite.Value.Elem" 0) ReflectliteValue.elem #[.agg #[.pointer (some ⟨10, 61, none⟩), .pointer (some a), .int .u64 150]]).run Tryz.prog W
      = .ok (.agg #[.pointer (some ⟨10, 56, none⟩), .pointer (some p), .int .u64 406]) W := by
  rw [rlm]
  simp only [Sem.run_bind, tas_parts27, Result.andThen]
  simp [ReflectliteValue.elem, loadVar, isAgg, underlying, Tryz.underlying61, ha, Result.andThen, tas_elemOf27, tas_mk25]
theorem rls (v x : Value) : ReflectliteValue.set #[v, x] = (do
    let (some (dst, a, fl), some (src, b, _)) := (← ReflectliteValue.parts v, ← ReflectliteValue.parts x)
      | unsupported (.noEntry "extern/(internal/reflectlite.Value).Set.zeroValue")
    if fl / ReflectliteValue.flagAddr % 2 == 0 then unsupported (.noEntry "extern/(internal/reflectlite.Value).Set.unaddressable")
    let val ← loadVar src b
    if ← Rtype.directlyAssignable dst src then storeVar dst a val
    else if ← Rtype.implements dst src then
      if (← Rtype.kind src) == 20 then
        match val with
        | .nilIface => unsupported (.noEntry "extern/reflectlite: a nil value of one interface type handed on as a value of another")
        | _ => storeVar dst a val
      else storeVar dst a (.iface src val)
    else panicString ("reflectlite.Set: value of type " ++ (← Rtype.spelt src) ++ " is not assignable to type " ++ (← Rtype.spelt dst))
    pure (.tuple #[])) := rfl
theorem tas_parts25a (a : Addr) (w : World) : (ReflectliteValue.parts (.agg #[.pointer (some ⟨10, 56, none⟩), .pointer (some a), .int .u64 406])).run Tryz.prog w = .ok (some (56, a, 406)) w := by kernel_rfl
theorem tas_parts25 (a : Addr) (w : World) : (ReflectliteValue.parts (.agg #[.pointer (some ⟨10, 56, none⟩), .pointer (some a), .int .u64 150])).run Tryz.prog w = .ok (some (56, a, 150)) w := by kernel_rfl
theorem tas_direct25 (w : World) : (Rtype.directlyAssignable 56 56).run Tryz.prog w = .ok true w := by kernel_rfl
theorem tas_set25 (ta b e : Addr) (old : Value) (W : World) (hb : W.cell? b = some (.pointer (some e))) (ht : W.cell? ta = some old) (hf : W.frozen? ta = false) :
    (ReflectliteValue.set #[.agg #[.pointer (some ⟨10, 56, none⟩), .pointer (some ta), .int .u64 406], .agg #[.pointer (some ⟨10, 56, none⟩), .pointer (some b), .int .u64 150]]).run Tryz.prog W
      = .ok (.tuple #[]) (W.setCell ta (.pointer (some e))) := by
  rw [rls]
  simp only [Sem.run_bind, tas_parts25a, tas_parts25, Result.andThen]
  simp [ReflectliteValue.flagAddr, loadVar, isAgg, underlying, Tryz.underlying56, hb, Result.andThen, tas_direct25, storeVar, Value.cells, storeCells, Addr.add]
  rw [run_store Tryz.prog W ta _ _ (by rfl)]
  simp [ht, hf]
set_option maxRecDepth 20000 in
set_option maxHeartbeats 8000000 in
theorem as_hit (e t : Addr) (old : Value) (w : World) (hg : w.cell? ⟨0, 0, none⟩ = some (.iface 137 (.agg #[.pointer (some ⟨10, 58, none⟩)]))) (ht0 : w.cell? t = some old) (hf0 : w.frozen? t = false) :
    Calls Tryz.prog 32 #[.iface 56 (.pointer (some e)), .iface 61 (.pointer (some t))] w fun ev w' => ev = .returned (.bool true) ∧ w' = ((((w.alloc (.cells #[.pointer (some t)] 61)).alloc (.cells #[.pointer (some ⟨10, 61, none⟩), .pointer (some ⟨w.heap.size, 0, none⟩), .int .u64 150] 107)).alloc (.cells #[.pointer (some ⟨10, 61, none⟩), .pointer (some ⟨w.heap.size, 0, none⟩), .int .u64 150] 107)).alloc (.cells #[.pointer (some e)] 56)).setCell t (.pointer (some e)) := by
  have h6 := @run_callFunc_extern Tryz.prog 55 _ (fun args => ReflectliteValue.unpack (args.getD 0 (.tuple #[]))) Tryz.func55 (by kernel_rfl) (by kernel_rfl) (by kernel_rfl) (by kernel_rfl)
  have h7 := @run_callFunc_extern Tryz.prog 56 _ (ReflectliteValue.methodAny (ReflectliteValue.valueError "reflectlite.Value.Type" 0) (fun t _ _ _ => ReflectliteType.toType t)) Tryz.func56 (by kernel_rfl) (by kernel_rfl) (by kernel_rfl) (by kernel_rfl)
  have h8 := @run_callFunc_extern Tryz.prog 57 _ (ReflectliteValue.method (ReflectliteValue.valueError "reflectlite.Value.IsNil" 0) ReflectliteValue.isNil) Tryz.func57 (by kernel_rfl) (by kernel_rfl) (by kernel_rfl) (by kernel_rfl)
  have h27 := @run_callFunc_extern Tryz.prog 177 _ (ReflectliteType.abiMethod fun t => do pure (.int .u8 (← Rtype.kind t))) Tryz.func177 (by kernel_rfl) (by kernel_rfl) (by kernel_rfl) (by kernel_rfl)
  have h37 := @run_callFunc_extern Tryz.prog 188 _ (ReflectliteType.method ReflectliteType.elem) Tryz.func188 (by kernel_rfl) (by kernel_rfl) (by kernel_rfl) (by kernel_rfl)
  have h38 := @run_callFunc_extern Tryz.prog 189 _ (ReflectliteType.relation "Implements" ReflectliteType.implements_) Tryz.func189 (by kernel_rfl) (by kernel_rfl) (by kernel_rfl) (by kernel_rfl)
  have h10 := @run_callFunc_extern Tryz.prog 84 _ ReflectliteType.typeOf Tryz.func84 (by kernel_rfl) (by kernel_rfl) (by kernel_rfl) (by kernel_rfl)
  have h35 := @run_callFunc_extern Tryz.prog 186 _ (ReflectliteType.relation "AssignableTo" ReflectliteType.assignableTo) Tryz.func186 (by kernel_rfl) (by kernel_rfl) (by kernel_rfl) (by kernel_rfl)
  have h11 := @run_callFunc_extern Tryz.prog 85 _ (ReflectliteValue.method (ReflectliteValue.valueError "reflectlite.Value.Elem" 0) ReflectliteValue.elem) Tryz.func85 (by kernel_rfl) (by kernel_rfl) (by kernel_rfl) (by kernel_rfl)
  have h12 := @run_callFunc_extern Tryz.prog 86 _ ReflectliteValue.set Tryz.func86 (by kernel_rfl) (by kernel_rfl) (by kernel_rfl) (by kernel_rfl)
  have tO := tas_typeOf25
  have mA := tas_methodAssignableTo
  have a25 := tas_assignable25
  have v25 := tas_valueOf25
  have f6 := tas_valueOf27
  have f7 := tas_type27
  have mK := tas_methodKind
  have mE := tas_methodElem
  have mI := tas_methodImplements
  have k27 := tas_kind27
  have k25 := tas_kind25
  have e27 := tas_elem27
  have i25 := tas_implements25
  have n8 := tas_isNil27 ⟨w.heap.size, 0, none⟩ t ((w.alloc (.cells #[.pointer (some t)] 61)).alloc (.cells #[.pointer (some ⟨10, 61, none⟩), .pointer (some ⟨w.heap.size, 0, none⟩), .int .u64 150] 107)) (by simp)
  have hlt : 0 < w.heap.size := by
    rcases Nat.eq_zero_or_pos w.heap.size with h0 | h
    · simp [World.cell?, h0] at hg
    · exact h
  have hg2 : ((w.alloc (.cells #[.pointer (some t)] 61)).alloc (.cells #[.pointer (some ⟨10, 61, none⟩), .pointer (some ⟨w.heap.size, 0, none⟩), .int .u64 150] 107)).cell? ⟨0, 0, none⟩ = some (.iface 137 (.agg #[.pointer (some ⟨10, 58, none⟩)])) := by
    rw [World.cell?_alloc_lt _ _ ⟨0, 0, none⟩ (by simp), World.cell?_alloc_lt _ _ ⟨0, 0, none⟩ hlt]; exact hg
  have htl : t.block < w.heap.size := by
    rcases Nat.lt_or_ge t.block w.heap.size with h | h
    · exact h
    · simp [World.cell?, Array.getElem?_eq_none h] at ht0
  have el := tas_elemV27 ⟨w.heap.size, 0, none⟩ t (((w.alloc (.cells #[.pointer (some t)] 61)).alloc (.cells #[.pointer (some ⟨10, 61, none⟩), .pointer (some ⟨w.heap.size, 0, none⟩), .int .u64 150] 107)).alloc (.cells #[.pointer (some ⟨10, 61, none⟩), .pointer (some ⟨w.heap.size, 0, none⟩), .int .u64 150] 107)) (by rw [World.cell?_alloc_lt _ _ ⟨w.heap.size, 0, none⟩ (by simp; omega)]; simp)
  have st := tas_set25 t ⟨w.heap.size + 1 + 1 + 1, 0, none⟩ e old ((((w.alloc (.cells #[.pointer (some t)] 61)).alloc (.cells #[.pointer (some ⟨10, 61, none⟩), .pointer (some ⟨w.heap.size, 0, none⟩), .int .u64 150] 107)).alloc (.cells #[.pointer (some ⟨10, 61, none⟩), .pointer (some ⟨w.heap.size, 0, none⟩), .int .u64 150] 107)).alloc (.cells #[.pointer (some e)] 56))
    (by rw [World.cell?_alloc_at _ _ _ _ (by simp)]; rfl)
    (by rw [World.cell?_alloc_lt _ _ t (by simp; omega), World.cell?_alloc_lt _ _ t (by simp; omega), World.cell?_alloc_lt _ _ t (by simp; omega), World.cell?_alloc_lt _ _ t htl]; exact ht0)
    (by rw [World.frozen?_alloc_old _ _ t (by simp; omega), World.frozen?_alloc_old _ _ t (by simp; omega), World.frozen?_alloc_old _ _ t (by simp; omega), World.frozen?_alloc_old _ _ t (Nat.ne_of_lt htl)]; exact hf0)
  go_enter Tryz.func32, Tryz.ntmps32
  go_wp2
  refine wp_loop_rounds 1 ?_
  rw [rounds_succ]
  go_wp2
  go_ret
  exact ⟨rfl, rfl⟩
end Go.Proofs.YtfnjodpehomgfaaGreatDoor
namespace Go.Proofs.YtfnjodpehomgfaaGreatDoor
open Go Go.Sh Go.Tx
theorem DCl.recov2 {P : Program} {T : Tab} (hT : TabOk P T) {f : FuncId} {fn : Func} {args : List Value} {w : World} {k : FrameMode → World → Prop} {m id d d2 : Nat} {o o2 : Oper} {c2 : Code} {u u1 : FrameMode} {v : Value}
    (hf : P.funcs[f]? = some fn) (hb : fn.body = some (.seq (.region id #[o, o2] false) c2)) (hm : fn.ntmps = m) (hrs : fn.results = #[]) (hn : Nat.ble args.length m = true)
    (ho : ∀ ρ w, (execOp ρ o).run P w = .ok .recover w) (hg : o.guard = none) (hd : o.dst = some d) (hdn : Nat.blt d m = true)
    (ho2 : o2.op = .assign (.tmp d)) (hg2 : o2.guard = none) (hd2 : o2.dst = some d2) (hdn2 : Nat.blt d2 m = true)
    (hu : (u = .returning ∧ v = .nilIface ∧ u1 = .returning) ∨ ∃ x, u = .panicking [{ v := x, recovered := false }] ∧ v = x ∧ u1 = .panicking [{ v := x, recovered := true }])
    (h : exC P T m c2 ⟨(d2, v) :: (d, v) :: argsEnv args 0, []⟩ w (fun e F w' => match e with | .normal | .ret => F.ds = [] ∧ k u1 w' | _ => False)) : DCl P f args.toArray u w k := by
  subst hm
  refine ⟨callsD_of_wpS hf hb fun c₀ cs hc => ?_⟩
  refine wpS_seq (wpS_region ?_)
  have hr0 : List.range (#[o, o2] : Array Oper).size = [0, 1] := rfl
  rw [hr0]
  have ha1 := (Agr.enter (fn := fn) hn).put (d := some d) (by simpa [dstOk] using hdn) v
  have ha := ha1.put (d := some d2) (by simpa [dstOk] using hdn2) v
  have hev := ha1.ev (.tmp d) v (by simp [evF, Fr.put, Sh.look])
  have fin : ∀ c₁ : Frame, c₁ = { c₀ with mode := u1 } → c2.wpS P (bodyPostS P fn c₀ cs (fun e u' w' => match e with | .returned _ => k u' w' | _ => False)) (Act.put (Act.put { tmps := args.toArray ++ Array.replicate (fn.ntmps - args.toArray.size) undef, defers := [] } (some d) v) (some d2) v) (c₁ :: cs) w := fun c₁ h1 => by
    refine wpS_of_wp (wp_mono (exC_sound hT c2 _ _ w _ ha (by exact h)) fun e a' w' q => ?_)
    obtain ⟨F', ha', q⟩ := q
    cases e with
    | normal =>
      refine ⟨ha'.2.1.trans q.1, u1, by rw [h1], .tuple #[], ?_, q.2⟩
      exact (by simp [results, hrs] : (results fn a'.tmps).run P w' = .ok (.tuple #[]) w')
    | ret =>
      refine ⟨ha'.2.1.trans q.1, u1, by rw [h1], .tuple #[], ?_, q.2⟩
      exact (by simp [results, hrs] : (results fn a'.tmps).run P w' = .ok (.tuple #[]) w')
    | _ => exact q.elim
  have snd : ∀ (Q : Exit → Act → List Frame → World → Prop) (c₁ : Frame), Q .normal (Act.put (Act.put { tmps := args.toArray ++ Array.replicate (fn.ntmps - args.toArray.size) undef, defers := [] } (some d) v) (some d2) v) (c₁ :: cs) w → wpOpsS P #[o, o2] Q [1] (Act.put { tmps := args.toArray ++ Array.replicate (fn.ntmps - args.toArray.size) undef, defers := [] } (some d) v) (c₁ :: cs) w := fun Q c₁ h1 => by
    unfold wpOpsS
    simp only [List.getElem?_toArray, List.getElem?_cons_succ, List.getElem?_cons_zero, wanted_none hg2, if_true]
    have hx : ∀ ρ w, (execOp ρ o2).run P w = .ok (.value (ρ (.tmp d))) w := fun ρ w => by unfold execOp; rw [ho2]; rfl
    simp only [hx, hev, Oper.upon, hd2]
    unfold wpOpsS
    exact h1
  unfold wpOpsS
  simp only [List.getElem?_toArray, List.getElem?_cons_zero, wanted_none hg, if_true, ho, hd]
  rcases hu with ⟨h1, rfl, h3⟩ | ⟨x, h1, rfl, h3⟩
  · have : recoverD (c₀ :: cs) = none := by simp [recoverD, hc, h1]
    simp only [this]
    exact snd _ c₀ (fin c₀ (by rw [h3, ← h1, ← hc]))
  · have : recoverD (c₀ :: cs) = some (v, { c₀ with mode := u1 } :: cs) := by simp [recoverD, hc, h1, h3]
    simp only [this]
    exact snd _ _ (fin _ rfl)
def EG (w : World) : Prop := w.cell? ⟨0, 0, none⟩ = some (.iface 137 (.agg #[.pointer (some ⟨10, 58, none⟩)]))
theorem EG.lt {w : World} (h : EG w) : 0 < w.heap.size := by
  rcases Nat.lt_or_ge 0 w.heap.size with h1 | h1
  · exact h1
  · unfold EG at h
    simp [World.cell?, Array.getElem?_eq_none h1] at h
theorem EG.ext {w w' : World} (h : EG w) (e : Ext w w') : EG w' := by
  have hb : w'.heap[0]? = w.heap[0]? := Go.RowKit.Below.block e _ h.lt
  unfold EG at h ⊢
  unfold World.cell? at h ⊢
  simp only at h hb ⊢
  rw [hb]; exact h
theorem as_c (q t : Nat) (old : Value) (w : World) (hE : EG w) (hb : Blk w t 56 [old]) :
    Cl Tryz.prog 32 #[.iface 56 (.pointer (some ⟨q, 0, none⟩)), .iface 61 (.pointer (some ⟨t, 0, none⟩))] w
      (fun v w' => v = .bool true ∧ Hp (· = t) w w' [bk t 56 [.pointer (some ⟨q, 0, none⟩)]]) (fun _ _ => False) := by
  refine ⟨Calls.mono (as_hit ⟨q, 0, none⟩ ⟨t, 0, none⟩ old w hE ?_ ?_) ?_⟩
  · exact hb.cell 0
  · exact hb.frozen _ rfl
  rintro ev w' ⟨rfl, rfl⟩
  refine ⟨rfl, ?_⟩
  have e := (((Ext.alloc w (.cells #[.pointer (some ⟨t, 0, none⟩)] 61)).trans (Ext.alloc _ (.cells #[.pointer (some ⟨10, 61, none⟩), .pointer (some ⟨w.heap.size, 0, none⟩), .int .u64 150] 107))).trans (Ext.alloc _ (.cells #[.pointer (some ⟨10, 61, none⟩), .pointer (some ⟨w.heap.size, 0, none⟩), .int .u64 150] 107))).trans (Ext.alloc _ (.cells #[.pointer (some ⟨q, 0, none⟩)] 56))
  have H0 : Hp (· = t) w w [bk t 56 [old]] := Hp.start (S := (· = t)) (bk_ok hb) (fun k hk => hk)
  have H := H0.ext e
  have hst := St.h (vs := [Value.pointer (some ⟨q, 0, none⟩)]) (o := 0) (k := fun w' => Hp (· = t) w w' [bk t 56 [.pointer (some ⟨q, 0, none⟩)]]) H (fun w' H => H)
  exact hst.out
attribute [local irreducible] Blk Ext RdS
theorem run_as (x : Value) (w : World) : (Instr.typeAssert (.iface 56 x) 20 58 true).run Tryz.prog w = .ok (.tuple #[.iface 56 x, .bool true]) w := by kernel_rfl
theorem parse1_ret (p2 p3 : Nat) (w : World) : DCl Tryz.prog 31 #[.pointer (some ⟨p2, 0, none⟩), .pointer (some ⟨p3, 0, none⟩)] .returning w (fun u w' => u = .returning ∧ Ext w w') := by
  refine DCl.recov2 (args := [.pointer (some ⟨p2, 0, none⟩), .pointer (some ⟨p3, 0, none⟩)]) T.ok Tryz.func31 rfl rfl rfl rfl (fun ρ w => rfl) rfl rfl rfl rfl rfl rfl rfl (.inl ⟨rfl, rfl, rfl⟩) ?_
  have H := Hp.begin nw w
  repeat' ((conv => whnf); first | refine ztS ?_ | (refine ztB ?_ ?_ <;> intro _ <;> try (exfalso; omega)) | (refine ztA ?_; clear H; intro _ _ H _) | fail)
  exact ⟨rfl, rfl, H.e⟩
theorem parse1_pan {w0 w : World} {q p2 p3 : Nat} {e : Int} {p : Nat} {c2 x y : Value} (hE : EG w0) (H : Hp nw w0 w [bk q 63 [.int .i64 e, .int .i64 (p : Int)], bk p3 27 [x, y], bk p2 24 [c2]]) :
    DCl Tryz.prog 31 #[.pointer (some ⟨p2, 0, none⟩), .pointer (some ⟨p3, 0, none⟩)] (.panicking (pk q)) w
      (fun u w' => u = .panicking [{ v := .iface 56 (.pointer (some ⟨q, 0, none⟩)), recovered := true }] ∧ Hp nw w0 w' [bk p3 27 [.int .i64 e, .int .i64 (p : Int)], bk p2 24 [.slice none 0 0]]) := by
  refine DCl.recov2 (args := [.pointer (some ⟨p2, 0, none⟩), .pointer (some ⟨p3, 0, none⟩)]) T.ok Tryz.func31 rfl rfl rfl rfl (fun ρ w => rfl) rfl rfl rfl rfl rfl rfl rfl (.inr ⟨_, rfl, rfl, rfl⟩) ?_
  repeat' ((conv => whnf); first | refine ztS ?_ | (refine ztB ?_ ?_ <;> intro _ <;> try (exfalso; omega)) | (refine ztW ?_; clear H; intro _ _ H _) | fail)
  ((conv => whnf); refine Al.hp H ?_; clear H; intro p5 _ H _)
  repeat' ((conv => whnf); first | refine ztS ?_ | (refine ztB ?_ ?_ <;> intro _ <;> try (exfalso; omega)) | (refine ztA ?_; clear H; intro _ _ H _) | fail)
  refine Sm.ran (run_as _ _) ?_
  repeat' ((conv => whnf); first | refine ztS ?_ | (refine ztB ?_ ?_ <;> intro _ <;> try (exfalso; omega)) | (refine ztA ?_; clear H; intro _ _ H _) | fail)
  ((conv => whnf); refine Cl.mk (as_c q p5 (.pointer none) _ (hE.ext H.e) (H.blk 0 rfl)) ?_)
  rintro _ w6 ⟨rfl, H'⟩
  replace H := H.updb H'
  clear H'
  repeat' ((conv => whnf); first | refine ztS ?_ | (refine ztB ?_ ?_ <;> intro _ <;> try (exfalso; omega)) | (refine ztA ?_; clear H; intro _ _ H _) | fail)
  exact ⟨rfl, rfl, H.sel [2, 2] rfl⟩
def PR (l : Bs) : Res (List Fnc) := if 16384 < l.length then .err 2 0 else parseP l (fuelOf l)
def OkP (l : Bs) (w : World) (v : Value) (w' : World) : Prop :=
  (∃ m ts A c, PR l = .ok (m.map FM.e) ts ∧ v = .tuple #[.agg #[.slice A m.length c], .agg #[.int .i64 0, .int .i64 0]] ∧ m.length ≤ 2000000 ∧ Hp nw w w' [qu FM.enc 3 34 A c m, fns m]) ∨
  (∃ e p, PR l = .err e p ∧ v = .tuple #[.agg #[.slice none 0 0], .agg #[.int .i64 e, .int .i64 (p : Int)]] ∧ Ext w w')
structure Rg (w : World) : Prop where
  tb : Tb w
  eg : EG w
theorem Rg.ext {w w' : World} (h : Rg w) (e : Ext w w') : Rg w' := ⟨h.tb.ext e, h.eg.ext e⟩
set_option maxHeartbeats 4000000 in
theorem Parse_c (l : Bs) (w : World) (hG : Rg w) : Cl Tryz.prog 12 #[.string (bs l)] w (OkP l w) (fun _ _ => False) := by
  refine calls_exd (args := [.string (bs l)]) T.ok Tryz.func12 rfl rfl rfl rfl ?_
  have H := Hp.begin nw w
  have hsz := bs_size l
  refine Sq.mk ?_
  ((conv => whnf); refine Al.hp H ?_; clear H; intro p2 _ H _)
  ((conv => whnf); refine Al.hp H ?_; clear H; intro p3 _ H _)
  by_cases hlong : 16384 < l.length
  · repeat' ((conv => whnf); first | refine ztS ?_ | (refine ztB ?_ ?_ <;> intro _ <;> try (exfalso; omega)) | (refine ztA ?_; clear H; intro _ _ H _) | fail)
    all_goals first | (exfalso; omega) | skip
    exact .inr ⟨2, 0, by unfold PR; rw [if_pos hlong], rfl, H.e⟩
  obtain ⟨R, hR⟩ : ∃ R, R = PR l := ⟨_, rfl⟩
  have hne : R ≠ .out := by
    rw [hR]; unfold PR; rw [if_neg hlong]
    intro e
    have := parse_fin l
    rw [e] at this
    exact this
  have hRp : R = parseP l (fuelOf l) := by rw [hR]; unfold PR; rw [if_neg hlong]
  unfold parseP at hRp
  repeat' ((conv => whnf); first | refine ztS ?_ | (refine ztB ?_ ?_ <;> intro _ <;> try (exfalso; omega)) | (refine ztW ?_; clear H; intro _ _ H _) | fail)
  all_goals first | (exfalso; omega) | skip
  ((conv => whnf); refine Al.hp H ?_; clear H; intro pr _ H _)
  repeat' ((conv => whnf); first | refine ztS ?_ | (refine ztB ?_ ?_ <;> intro _ <;> try (exfalso; omega)) | (refine ztA ?_; clear H; intro _ _ H _) | fail)
  have hfix : ∀ w', Hp nw w w' [bk pr 68 (rdrCs l 0 ⟨[], [], 0, 0, 0⟩), bk p3 27 [.int .i64 0, .int .i64 0], bk p2 24 [.slice none 0 0]] → Hp nw w w' [bk pr 68 (rdrCs l 0 ⟨[], [], 0, 0, 0⟩), bk p3 27 [.int .i64 0, .int .i64 0], bk p2 24 [.slice none 0 0]] := fun _ h => h
  replace H := hfix _ H
  clear hfix
  have hwl := words_len l (l.length + 1) 0
  replace H := Hp.toR (t := ⟨[], [], 0, 0, 0⟩) (r := words l (l.length + 1) 0) H (Nat.zero_le _) ⟨fun _ => rfl, by omega, by decide, by decide⟩
  have X : Txt l pr w := ⟨by assumption, hG.tb, by omega⟩
  have C := con_all X (fuelOf l)
  (conv => whnf)
  refine Cl.mkX (step_c false l pr (⟨[], [], 0, 0, 0⟩ :: words l (l.length + 1) 0) w _ H.e X.lo X.tb X.len (H.atC 0 rfl) (by show ([] : Bs) ≠ k_end; decide)) ?_ ?_
  rotate_left
  · rintro ch w9 ⟨e9, p9, q9, h9, rfl, H'⟩
    replace H := H.upd (c := rdr l pr (⟨[], [], 0, 0, 0⟩ :: words l (l.length + 1) 0)) H' rfl (.inl rfl)
    have hR9 : R = .err e9 p9 := by rw [hRp, h9]; rfl
    (conv => whnf)
    refine DCl.mono (parse1_pan hG.eg (H.sel [0, 0, 0] rfl)) ?_
    rintro _ w10 ⟨rfl, H2⟩
    replace H := H2
    repeat' ((conv => whnf); first | refine ztS ?_ | (refine ztB ?_ ?_ <;> intro _ <;> try (exfalso; omega)) | (refine ztA ?_; clear H; intro _ _ H _) | fail)
    exact .inr ⟨e9, p9, by rw [← hR, hR9], rfl, H.e⟩
  rintro _ w3 ⟨ts, h1, H'⟩
  replace H := H.upd (c := rdr l pr (⟨[], [], 0, 0, 0⟩ :: words l (l.length + 1) 0)) H' rfl (.inl rfl)
  clear H'
  rw [h1, Res.bind_ok] at hRp
  replace H := Hp.nil (Hp.fns0 H) FM.enc 3 34
  repeat' ((conv => whnf); first | refine ztT ?_ | (refine ztB ?_ ?_ <;> intro _ <;> try (exfalso; omega)) | (refine ztA ?_; clear H; intro _ _ H _) | fail)
  (conv => whnf)
  refine Dr.chXk T.ok mixed [0, 1, 2, 6] [3, 4, 5, 7] (by kernel_rfl) rfl rfl (fun w' => Blk w' p2 24 [.slice none 0 0]) (fun ch w' => ∃ e9 p9 q9 c9, R = .err e9 p9 ∧ ch = pk q9 ∧ Hp nw w w' [bk q9 63 [.int .i64 e9, .int .i64 (p9 : Int)], bk p3 27 [.int .i64 0, .int .i64 0], bk p2 24 [c9]])
    (fun ch w' h => ?_) (fun w1 eT _ => ?_)
  · obtain ⟨e9, p9, q9, c9, hR9, rfl, H⟩ := h
    (conv => whnf)
    refine DCl.mono (parse1_pan hG.eg H) ?_
    rintro _ w10 ⟨rfl, H2⟩
    replace H := H2
    repeat' ((conv => whnf); first | refine ztS ?_ | (refine ztB ?_ ?_ <;> intro _ <;> try (exfalso; omega)) | (refine ztA ?_; clear H; intro _ _ H _) | fail)
    exact .inr ⟨e9, p9, by rw [← hR, hR9], rfl, H.e⟩
  replace H := H.ext eT
  repeat' ((conv => whnf); first | refine QLd1.own (fun _ hw => hw) ?_ | refine QLd.own (fun _ hw => hw) ?_)
  (conv => whnf)
  refine ⟨H.blk 4 rfl, ?_⟩
  (conv => whnf)
  refine Cl.mkX (function_c X C (ts) _ H.e (H.atC 2 rfl) (Res.bind_out (by rw [← hRp]; exact hne))) ?_ ?_
  rotate_left
  · rintro ch w9 ⟨e9, p9, q9, h9, rfl, H'⟩
    replace H := H.upd (c := rdr l pr (ts)) H' rfl (.inl rfl)
    exact ⟨e9, p9, q9, _, by rw [hRp, h9]; rfl, rfl, H.sel [2, 2, 2] rfl⟩
  rintro _ w3 ⟨⟨n1, P1, c1, ps1, B1, d1, b1⟩, ts1, h2, rfl, H'⟩
  replace H := H.updn (c := rdr l pr (ts)) (Hp.swap H') rfl (.inl rfl) (.inl rfl)
  clear H'
  rw [h2, Res.bind_ok] at hRp
  (conv => whnf)
  refine ⟨H.blk 5 rfl, ?_⟩
  refine Sm.lith (cs := FM.enc ⟨n1, P1, c1, ps1, B1, d1, b1⟩) H T.ok (fun p5 w4 H _ => ?_)
  (conv => whnf)
  refine ⟨H.blk 6 rfl, ?_⟩
  refine Sm.ap1 (enc := FM.enc) ⟨n1, P1, c1, ps1, B1, d1, b1⟩ H T.ok ?_ ?_ (fun A' c' w6 H => ?_)
  · show (0 + 1) * 64 ≤ _; omega
  · show 0 + 1 ≤ _; omega
  simp only [List.cons_append, List.nil_append] at H
  (conv => whnf)
  refine ⟨H.blk 5 rfl, ?_⟩
  repeat' ((conv => whnf); first | refine ztT ?_ | (refine ztB ?_ ?_ <;> intro _ <;> try (exfalso; omega)) | (refine ztA ?_; clear H; intro _ _ H _) | fail)
  have hN : ts1.length ≤ l.length + 2 := (H.atC (c := rdr l pr ts1) 3 rfl).len
  generalize hN0 : ts1.length + 1 = N at hRp
  have hNb : N ≤ 1000010 := by omega
  replace H := Hp.swap (Hp.fnsS (l := []) (H.sel [0, 1, 0, 0, 0, 0] rfl))
  refine Lp.go T.ok (σ := Nat × Option Addr × Nat × List FM × List Tk) (fun q => [(2, .pointer (some ⟨p2, 0, none⟩)), (3, .pointer (some ⟨p3, 0, none⟩)), (4, .pointer (some ⟨pr, 0, none⟩))])
    (fun q w' => R = loopF (pf (fuelOf l)) q.1 (q.2.2.2.1.map FM.e) q.2.2.2.2 ∧ q.1 + q.2.2.2.1.length ≤ N + 1 ∧ Hp nw w w' [qu FM.enc 3 34 q.2.1 q.2.2.1 q.2.2.2.1, fns q.2.2.2.1, rdr l pr q.2.2.2.2, bk p3 27 [.int .i64 0, .int .i64 0], bk p2 24 [.slice q.2.1 q.2.2.2.1.length q.2.2.1]]) (fun q _ => q.1) (N, A', c', [⟨n1, P1, c1, ps1, B1, d1, b1⟩], ts1) ⟨rfl, rfl, rfl, trivial⟩ ⟨hRp, Nat.le_refl _, H⟩ ?_
  clear H hRp hN0 hN h2 h1
  rintro ⟨f, A, c, fs, ts⟩ w5 ⟨hRp, hN, H⟩
  simp only at hRp hN H ⊢
  cases f with
  | zero => exact absurd hRp hne
  | succ f =>
  simp only [loopF] at hRp
  obtain ⟨nx, t0, r0, rfl, hnx, hr0, hb0⟩ := H.atC (c := rdr l pr ts) 2 rfl
  replace H := Hp.ofR H hb0
  clear hb0
  by_cases hk : t0.kind = k_end
  · rw [if_pos (show curK (t0 :: r0) = k_end from hk)] at hRp
    repeat' ((conv => whnf); first | refine ztT ?_ | (refine ztB ?_ ?_ <;> intro _ <;> try (exfalso; omega)) | (refine ztA ?_; clear H; intro _ _ H _) | fail)
    (conv => whnf)
    refine DCl.mono (parse1_ret p2 p3 _) ?_
    rintro _ _ ⟨rfl, hx⟩
    replace H := H.ext hx
    clear hx
    refine ⟨rfl, ?_⟩
    repeat' ((conv => whnf); first | refine ztS ?_ | (refine ztB ?_ ?_ <;> intro _ <;> try (exfalso; omega)) | (refine ztA ?_; clear H; intro _ _ H _) | fail)
    exact .inl ⟨fs, t0 :: r0, A, c, by rw [← hR, hRp], rfl, by omega, H.sel [0, 0] rfl⟩
  rw [if_neg (show ¬ curK (t0 :: r0) = k_end from hk)] at hRp
  repeat' ((conv => whnf); first | refine ztT ?_ | (refine ztB ?_ ?_ <;> intro _ <;> try (exfalso; omega)) | (refine ztA ?_; clear H; intro _ _ H _) | fail)
  replace H := Hp.toR H hnx hr0
  (conv => whnf)
  refine Dr.chXk T.ok mixed [0, 1, 2, 6] [3, 4, 5, 7] (by kernel_rfl) rfl rfl (fun w' => Blk w' p2 24 [.slice A fs.length c]) (fun ch w' => ∃ e9 p9 q9 c9, R = .err e9 p9 ∧ ch = pk q9 ∧ Hp nw w w' [bk q9 63 [.int .i64 e9, .int .i64 (p9 : Int)], bk p3 27 [.int .i64 0, .int .i64 0], bk p2 24 [c9]])
    (fun ch w' h => ?_) (fun w1 eT _ => ?_)
  · obtain ⟨e9, p9, q9, c9, hR9, rfl, H⟩ := h
    (conv => whnf)
    refine DCl.mono (parse1_pan hG.eg H) ?_
    rintro _ w10 ⟨rfl, H2⟩
    replace H := H2
    repeat' ((conv => whnf); first | refine ztS ?_ | (refine ztB ?_ ?_ <;> intro _ <;> try (exfalso; omega)) | (refine ztA ?_; clear H; intro _ _ H _) | fail)
    exact .inr ⟨e9, p9, by rw [← hR, hR9], rfl, H.e⟩
  replace H := H.ext eT
  repeat' ((conv => whnf); first | refine QLd1.own (fun _ hw => hw) ?_ | refine QLd.own (fun _ hw => hw) ?_)
  (conv => whnf)
  refine ⟨H.blk 4 rfl, ?_⟩
  (conv => whnf)
  refine Cl.mkX (function_c X C (t0 :: r0) _ H.e (H.atC 2 rfl) (Res.bind_out (by rw [← hRp]; exact hne))) ?_ ?_
  rotate_left
  · rintro ch w9 ⟨e9, p9, q9, h9, rfl, H'⟩
    replace H := H.upd (c := rdr l pr (t0 :: r0)) H' rfl (.inl rfl)
    exact ⟨e9, p9, q9, _, by rw [hRp, h9]; rfl, rfl, H.sel [2, 2, 2] rfl⟩
  rintro _ w3 ⟨⟨n1, P1, c1, ps1, B1, d1, b1⟩, ts1, h2, rfl, H'⟩
  replace H := H.updn (c := rdr l pr (t0 :: r0)) (Hp.swap H') rfl (.inl rfl) (.inl rfl)
  clear H'
  rw [h2, Res.bind_ok] at hRp
  (conv => whnf)
  refine ⟨H.blk 5 rfl, ?_⟩
  refine Sm.lith (cs := FM.enc ⟨n1, P1, c1, ps1, B1, d1, b1⟩) H T.ok (fun p5 w4 H _ => ?_)
  (conv => whnf)
  refine ⟨H.blk 6 rfl, ?_⟩
  refine Sm.ap1 (enc := FM.enc) ⟨n1, P1, c1, ps1, B1, d1, b1⟩ H T.ok ?_ ?_ (fun A' c' w6 H => ?_)
  · show (fs.length + 1) * 64 ≤ _; omega
  · show fs.length + 1 ≤ _; omega
  simp only [List.cons_append, List.nil_append] at H
  (conv => whnf)
  refine ⟨H.blk 5 rfl, ?_⟩
  repeat' ((conv => whnf); first | refine ztT ?_ | (refine ztB ?_ ?_ <;> intro _ <;> try (exfalso; omega)) | (refine ztA ?_; clear H; intro _ _ H _) | fail)
  refine ⟨(f, A', c', fs ++ [⟨n1, P1, c1, ps1, B1, d1, b1⟩], ts1), ⟨rfl, rfl, rfl, trivial⟩, rfl, ⟨?_, ?_, ?_⟩, Nat.lt_succ_self f⟩
  · rw [hRp, List.map_append]; rfl
  · simp only [List.length_append, List.length_cons, List.length_nil]; omega
  · have hl1 : (fs ++ [(⟨n1, P1, c1, ps1, B1, d1, b1⟩ : FM)]).length = fs.length + 1 := by simp
    simp only [hl1]
    exact Hp.swap (Hp.fnsS (H.sel [0, 1, 0, 0, 0, 0] rfl))
end Go.Proofs.YtfnjodpehomgfaaGreatDoor
namespace Go.Proofs.YtfnjodpehomgfaaGreatDoor
open Go Go.Shelf
def itoa_ren : Go.Shelf.Ren := ⟨fun | 173 => 138 | 246 => 148 | 283 => 151 | 284 => 152 | 285 => 153 | 286 => 154 | 129 => 157 | 317 => 156 | 318 => 158 | 319 => 159 | 320 => 160 | 337 => 161 | 338 => 162 | n => n, fun | 2 => 2 | 3 => 3 | 9 => 9 | 4 => 4 | 171 => 191 | 0 => 0 | 53 => 170 | 37 => 88 | 5 => 5 | 173 => 194 | 212 => 198 | 51 => 167 | 20 => 20 | 213 => 199 | 46 => 154 | 232 => 202 | 233 => 203 | n => n, fun | 17 => 7 | 18 => 8 | 19 => 9 | n => n⟩
theorem itoa_lays : Go.Proofs.LaysM.n173 Tryz.prog itoa_ren := {
  mixed := by kernel_rfl,
  f129 := Tryz.func157.trans (congrArg some (by kernel_rfl)),
  f173 := Tryz.func138.trans (congrArg some (by kernel_rfl)),
  f246 := Tryz.func148.trans (congrArg some (by kernel_rfl)),
  f283 := Tryz.func151.trans (congrArg some (by kernel_rfl)),
  f284 := Tryz.func152.trans (congrArg some (by kernel_rfl)),
  f285 := Tryz.func153.trans (congrArg some (by kernel_rfl)),
  f286 := Tryz.func154.trans (congrArg some (by kernel_rfl)),
  f317 := Tryz.func156.trans (congrArg some (by kernel_rfl)),
  f318 := Tryz.func158.trans (congrArg some (by kernel_rfl)),
  f319 := Tryz.func159.trans (congrArg some (by kernel_rfl)),
  f320 := Tryz.func160.trans (congrArg some (by kernel_rfl)),
  f337 := Tryz.func161.trans (congrArg some (by kernel_rfl)),
  f338 := Tryz.func162.trans (congrArg some (by kernel_rfl)),
  t0 := Tryz.underlying0,
  a0 := Tryz.isAgg0,
  z0 := Tryz.sizeOf0,
  v0 := Tryz.zeroValue0,
  t2 := Tryz.underlying2,
  a2 := Tryz.isAgg2,
  z2 := Tryz.sizeOf2,
  v2 := Tryz.zeroValue2,
  t3 := Tryz.underlying3,
  a3 := Tryz.isAgg3,
  z3 := Tryz.sizeOf3,
  v3 := Tryz.zeroValue3,
  t4 := Tryz.underlying4,
  a4 := Tryz.isAgg4,
  z4 := Tryz.sizeOf4,
  v4 := Tryz.zeroValue4,
  t5 := Tryz.underlying5,
  a5 := Tryz.isAgg5,
  z5 := Tryz.sizeOf5,
  v5 := Tryz.zeroValue5,
  t9 := Tryz.underlying9,
  a9 := Tryz.isAgg9,
  z9 := Tryz.sizeOf9,
  v9 := Tryz.zeroValue9,
  t20 := Tryz.underlying20,
  a20 := Tryz.isAgg20,
  z20 := Tryz.sizeOf20,
  v20 := Tryz.zeroValue20,
  t37 := Tryz.underlying88,
  a37 := Tryz.isAgg88,
  z37 := Tryz.sizeOf88,
  v37 := Tryz.zeroValue88,
  t46 := Tryz.underlying154,
  a46 := Tryz.isAgg154,
  z46 := Tryz.sizeOf154,
  v46 := Tryz.zeroValue154,
  t51 := Tryz.underlying167,
  a51 := Tryz.isAgg167,
  z51 := Tryz.sizeOf167,
  v51 := Tryz.zeroValue167,
  t53 := Tryz.underlying170,
  a53 := Tryz.isAgg170,
  z53 := Tryz.sizeOf170,
  v53 := Tryz.zeroValue170,
  t171 := Tryz.underlying191,
  a171 := Tryz.isAgg191,
  z171 := Tryz.sizeOf191,
  v171 := Tryz.zeroValue191,
  t173 := Tryz.underlying194,
  a173 := Tryz.isAgg194,
  z173 := Tryz.sizeOf194,
  v173 := Tryz.zeroValue194,
  t212 := Tryz.underlying198,
  a212 := Tryz.isAgg198,
  z212 := Tryz.sizeOf198,
  v212 := Tryz.zeroValue198,
  t213 := Tryz.underlying199,
  a213 := Tryz.isAgg199,
  z213 := Tryz.sizeOf199,
  t232 := Tryz.underlying202,
  a232 := Tryz.isAgg202,
  z232 := Tryz.sizeOf202,
  v232 := Tryz.zeroValue202,
  t233 := Tryz.underlying203,
  a233 := Tryz.isAgg203,
  z233 := Tryz.sizeOf203,
  v233 := Tryz.zeroValue203,
  g17 := by kernel_rfl,
  g18 := by kernel_rfl,
  g19 := by kernel_rfl,
  i0 := by kernel_rfl,
  i2 := by kernel_rfl,
  i3 := by kernel_rfl,
  i4 := by kernel_rfl,
  i5 := by kernel_rfl,
  i9 := by kernel_rfl,
  i20 := by kernel_rfl,
  i37 := by kernel_rfl,
  i46 := by kernel_rfl,
  i51 := by kernel_rfl,
  i53 := by kernel_rfl,
  i171 := by kernel_rfl,
  i173 := by kernel_rfl,
  i212 := by kernel_rfl,
  i232 := by kernel_rfl,
  i233 := by kernel_rfl,
  m17 := by kernel_rfl,
  m18 := by kernel_rfl,
  m19 := by kernel_rfl }
end Go.Proofs.YtfnjodpehomgfaaGreatDoor
