/- own work: TxG, TzB, TzD, TxH, TzF, TzG, TyV, TzQ, TxT, TxI, TxJ, TxK, TxL, TxU, TxV, TxW, TxX, TxY, TxZ, TuA, TuB, TuC, TuD, TuE, TuF, TuG, TsD, TsE -/
import GoSem.Op.String
import Derived.Test.YtfnjodpehomgfaaGreatDoorMK2
import Derived.Test.YtfnjodpehomgfaaGreatDoorMK3
import Derived.Test.YtfnjodpehomgfaaGreatDoorMK4
set_option linter.unusedVariables false
set_option linter.unusedSimpArgs false
set_option linter.unusedSectionVars false
namespace Go.Tx
def k_bad : Bs := [98, 97, 100]
def k_least : Bs := [108, 101, 97, 115, 116]
def rKind (t : Tk) : Bs := if t.err ≠ 0 then k_bad else if t.kind = k_number ∧ t.n = -9223372036854775808 then k_least else t.kind
def rText (src : Bs) (t : Tk) : Bs := if t.err = 140 then (src.drop t.at_).take 1 else t.text
def chk (ts : List Tk) : Res Unit := match ts with
  | t :: r => if t.err ≠ 0 then .err t.err t.at_ else if t.kind = k_number ∧ t.n = -9223372036854775808 then .err 143 t.at_ else .ok () (t :: r)
  | [] => .out
structure RS where
  ts : List Tk
  sp : Option (Int × Nat)
def Doom (e : Int) (p : Nat) (s : RS) : Prop := s.sp = some (e, p) ∨ (s.sp = none ∧ chk s.ts = .err e p)
def AtC {α : Type} (R : Res α) (s : RS) : Prop := match R with
  | .ok _ ts => s.sp = none ∧ s.ts = ts ∧ chk ts = .ok () ts
  | .err e p => Doom e p s
  | .out => True
structure AtR {α : Type} (R : Res α) (s : RS) : Prop where
  ends : Ends s.ts
  at_ : AtC R s
def Pls (ts : List Tk) : Prop := ∀ t ∈ ts, t.kind ≠ k_least ∧ t.kind ≠ k_bad
end Go.Tx
namespace Go.Proofs.YtfnjodpehomgfaaGreatDoor
open Go Go.Sh Go.Tx
attribute [local irreducible] Blk Ext RdS
def rwE (src : Bs) (t : Tk) : List Value := [.string (bs (rKind t)), .int .i64 (t.at_ : Int), .string (bs (rText src t)), .int .i64 t.err]
end Go.Proofs.YtfnjodpehomgfaaGreatDoor
namespace Go.Proofs.YtfnjodpehomgfaaGreatDoor
open Go Go.Sh Go.Tx
attribute [local irreducible] Blk Ext RdS
def spE (s : RS) : Int := match s.sp with | none => 0 | some (e, _) => e
def spP (s : RS) : Nat := match s.sp with | none => 0 | some (_, p) => p
def qCs (ws : List Tk) (A : Option Addr) (cw k : Nat) (s : RS) : List Value := [.slice A ws.length cw, .int .i64 (k : Int), .int .i64 (spE s), .int .i64 (spP s : Int)]
def RdQ (ws : List Tk) (A : Option Addr) (cw pr : Nat) (s : RS) (w : World) : Prop := ∃ k, ws.drop k = s.ts ∧ (∀ e p, s.sp = some (e, p) → e ≠ 0) ∧ Blk w pr 54 (qCs ws A cw k s)
abbrev rq (ws : List Tk) (A : Option Addr) (cw pr : Nat) (s : RS) : Ck := ⟨(· = pr), RdQ ws A cw pr s, true, false⟩
structure RX (src : Bs) (ws : List Tk) (A : Option Addr) (cw pr : Nat) (wb : World) : Prop where
  lo : wb.heap.size ≤ pr
  rd : RdS (rwE src) 4 wb A ws
  len : ws.length ≤ 20000
  pls : Pls ws
theorem RX.ok {src : Bs} {ws : List Tk} {A : Option Addr} {cw pr : Nat} {wb w : World} (X : RX src ws A cw pr wb) (h : Ext wb w) : BaseOk (· = pr) wb w := ⟨h, fun k hk => by subst hk; exact X.lo⟩
section
end
end Go.Proofs.YtfnjodpehomgfaaGreatDoor
namespace Go.Tx
def Res.map {α β : Type} (g : α → β) (R : Res α) : Res β := R.bind fun a ts => .ok (g a) ts
def Vl {α : Type} (R : Res α) (P : α → Prop) : Prop := ∀ a ts, R = .ok a ts → P a
section
variable {α β γ : Type}
theorem AtR.map {R : Res α} {s : RS} (h : AtR R s) (g : α → β) : AtR (R.map g) s := by
  obtain ⟨h1, h2⟩ := h
  exact ⟨h1, by cases R <;> exact h2⟩
theorem AtR.toErr {e : Int} {p : Nat} {s : RS} (h : AtR (.err e p : Res α) s) : AtR (.err e p : Res β) s := ⟨h.1, h.2⟩
theorem Vl.ok {a : α} {ts : List Tk} {P : α → Prop} (h : P a) : Vl (.ok a ts) P := fun b ts' e => by
  simp only [Res.ok.injEq] at e
  rw [← e.1]; exact h
theorem Vl.err {e : Int} {p : Nat} {P : α → Prop} : Vl (.err e p) P := fun b ts' h => by simp at h
theorem Vl.map {R : Res α} {g : α → β} {P : β → Prop} (h : Vl R fun a => P (g a)) : Vl (R.map g) P := fun b ts e => by
  cases R with
  | out => simp [Res.map, Res.bind] at e
  | err e' p => simp [Res.map, Res.bind] at e
  | ok a ts' =>
    simp only [Res.map, Res.bind, Res.ok.injEq] at e
    rw [← e.1]; exact h a ts' rfl
theorem Vl.mono {R : Res α} {P Q : α → Prop} (h : Vl R P) (k : ∀ a, P a → Q a) : Vl R Q := fun a ts e => k a (h a ts e)
end
structure Gdw (ts : List Tk) : Prop where
  ends : Ends ts
  ok : chk ts = .ok () ts
theorem Gdw.at {ts : List Tk} (h : Gdw ts) {α : Type} (a : α) : AtR (.ok a ts) ⟨ts, none⟩ := ⟨h.ends, rfl, rfl, h.ok⟩
end Go.Tx
namespace Go.Proofs.YtfnjodpehomgfaaGreatDoor
open Go Go.Sh Go.Tx
attribute [local irreducible] Blk Ext RdS
section
variable {src : Bs} {ws : List Tk} {A : Option Addr} {cw pr : Nat} {wb : World}
theorem RX.lt (X : RX src ws A cw pr wb) {j : Nat} {ts : List Tk} (h : ws.drop j = ts) : ts ≠ [] → j < 20000 := fun hne => by
  have := X.len
  apply Nat.lt_of_lt_of_le _ this
  apply Nat.lt_of_not_le
  intro hle
  exact hne (h.symm.trans (List.drop_of_length_le hle))
theorem RdQ.mem {s : RS} {w : World} (h : RdQ ws A cw pr s w) : ∀ t ∈ s.ts, t ∈ ws := fun t ht => by
  obtain ⟨k, h1, _⟩ := h
  rw [← h1] at ht
  exact List.mem_of_mem_drop ht
def OkRE (ws : List Tk) (A : Option Addr) (cw pr : Nat) {α : Type} (g : α → Ex) (R : Res α) (w : World) (v : Value) (w' : World) : Prop :=
  ∃ t s', v = ET.v t ∧ AtR R s' ∧ Vl R (fun a => ET.e t = g a) ∧ Hp (· = pr) w w' [trs [t], rq ws A cw pr s']
end
end Go.Proofs.YtfnjodpehomgfaaGreatDoor
namespace Go.Proofs.YtfnjodpehomgfaaGreatDoor
open Go Go.Sh Go.Tx
attribute [local irreducible] Blk Ext RdS
section
variable {src : Bs} {ws : List Tk} {A : Option Addr} {cw pr : Nat} {wb : World}
theorem OkRE.err {α β : Type} {g : α → Ex} {g' : β → Ex} {e : Int} {p : Nat} {w w' : World} {v : Value} (h : OkRE ws A cw pr g (.err e p : Res α) w v w') : OkRE ws A cw pr g' (.err e p : Res β) w v w' := by
  obtain ⟨t, s', h1, h2, h3, h4⟩ := h
  exact ⟨t, s', h1, h2.toErr, Vl.err, h4⟩
end
end Go.Proofs.YtfnjodpehomgfaaGreatDoor
namespace Go.Proofs.YtfnjodpehomgfaaGreatDoor
open Go Go.Sh Go.Tx
attribute [local irreducible] Blk Ext RdS
mutual
def sameE : Ex → Ex → Bool
  | .mk k o n a b l, .mk k2 o2 n2 a2 b2 l2 => k == k2 && o == o2 && n == n2 && a == a2 && b == b2 && sameL l l2
def sameL : List Ex → List Ex → Bool
  | [], [] => true
  | x :: r, y :: s => sameE x y && sameL r s
  | [], _ :: _ => false
  | _ :: _, [] => false
end
theorem sameL_len : ∀ {l m : List Ex}, sameL l m = true → l.length = m.length
  | [], [], _ => rfl
  | x :: r, y :: s, h => by
    simp only [sameL, Bool.and_eq_true] at h
    simp [sameL_len h.2]
  | [], _ :: _, h => by simp [sameL] at h
  | _ :: _, [], h => by simp [sameL] at h
theorem sameL_ne {l m : List Ex} (h : l.length ≠ m.length) : sameL l m = false := by
  cases hx : sameL l m with
  | false => rfl
  | true => exact absurd (sameL_len hx) h
mutual
def ET.sz : ET → Nat
  | .mk _ _ _ _ _ _ _ ks => ET.szs ks + 1
def ET.szs : List ET → Nat
  | [] => 0
  | x :: r => ET.sz x + ET.szs r
end
theorem ET.sz_mem {x : ET} : ∀ {l : List ET}, x ∈ l → ET.sz x ≤ ET.szs l
  | [], h => by simp at h
  | y :: r, h => by
    simp only [ET.szs]
    rcases List.mem_cons.1 h with rfl | h
    · omega
    · have := ET.sz_mem h; omega
theorem ET.oks_mem {w : World} {x : ET} : ∀ {l : List ET}, x ∈ l → ET.Oks w l → ET.Ok w x
  | [], h, _ => by simp at h
  | y :: r, h, hk => by
    rcases List.mem_cons.1 h with rfl | h
    · exact hk.1
    · exact ET.oks_mem h hk.2
theorem ET.es_drop : ∀ (l : List ET) (i : Nat), ET.es (l.drop i) = (ET.es l).drop i
  | l, 0 => by simp
  | [], i + 1 => by simp [ET.es]
  | x :: r, i + 1 => by simp [ET.es, ET.es_drop r i]
theorem ET.Ok.ext {w w' : World} {t : ET} (h : ET.Ok w t) (e : Ext w w') : ET.Ok w' t := ET.Ok.loc e.size h fun b hb => by
  have e2 := e
  unfold Ext at e2
  exact Go.RowKit.Below.block e2 b (ET.Ok.lt h b hb)
mutual
def ET.Lo (w : World) : ET → Prop
  | .mk _ _ _ _ _ A _ ks => RdS ET.enc 6 w A ks ∧ ET.Los w ks ∧ ks.length ≤ 9000000
def ET.Los (w : World) : List ET → Prop
  | [] => True
  | x :: r => ET.Lo w x ∧ ET.Los w r
end
mutual
theorem ET.Lo.ext {w w' : World} (e : Ext w w') : ∀ {t : ET}, ET.Lo w t → ET.Lo w' t
  | .mk _ _ _ _ _ _ _ _, h => ⟨RdS.from e h.1, ET.Los.ext e h.2.1, h.2.2⟩
theorem ET.Los.ext {w w' : World} (e : Ext w w') : ∀ {l : List ET}, ET.Los w l → ET.Los w' l
  | [], _ => trivial
  | _ :: _, h => ⟨ET.Lo.ext e h.1, ET.Los.ext e h.2⟩
end
mutual
theorem ET.Ok.lo {w : World} : ∀ {t : ET}, ET.Ok w t → ET.Lo w t
  | .mk _ _ _ _ _ _ _ _, h => ⟨h.1.rd, ET.Oks.los h.2.1, Nat.le_trans h.2.2 (by decide)⟩
theorem ET.Oks.los {w : World} : ∀ {l : List ET}, ET.Oks w l → ET.Los w l
  | [], _ => trivial
  | _ :: _, h => ⟨ET.Ok.lo h.1, ET.Oks.los h.2⟩
end
theorem ET.los_mem {w : World} {x : ET} : ∀ {l : List ET}, x ∈ l → ET.Los w l → ET.Lo w x
  | [], h, _ => by simp at h
  | y :: r, h, hk => by
    rcases List.mem_cons.1 h with rfl | h
    · exact hk.1
    · exact ET.los_mem h hk.2
set_option maxHeartbeats 2000000 in
theorem sameExpr_l : ∀ (n : Nat) (x y : ET) (w : World), ET.sz x ≤ n → ET.Lo w x → ET.Lo w y → Cl Tryz.prog 63 #[x.v, y.v] w (fun v w' => v = .bool (sameE x.e y.e) ∧ Ext w w') (fun _ _ => False)
  | 0, x, y, w, hn, _, _ => by cases x; simp [ET.sz] at hn
  | n + 1, .mk k1 o1 n1 a1 b1 A1 c1 l1, .mk k2 o2 n2 a2 b2 A2 c2 l2, w, hn, hx, hy => by
    refine calls_ex (args := [.agg #[.int .i64 k1, .int .i64 o1, .int .i64 n1, .string (bs a1), .string (bs b1), .slice A1 l1.length c1], .agg #[.int .i64 k2, .int .i64 o2, .int .i64 n2, .string (bs a2), .string (bs b2), .slice A2 l2.length c2]]) T.ok Tryz.func63 rfl rfl rfl rfl ?_
    have H := Hp.begin nw w
    refine Sq.mk ?_
    ((conv => whnf); refine Al.hp H ?_; clear H; intro p2 _ H _)
    ((conv => whnf); refine Al.hp H ?_; clear H; intro p3 _ H _)
    repeat' ((conv => whnf); first | refine ztS ?_ | (refine ztB ?_ ?_ <;> intro _ <;> try (exfalso; omega)) | (refine ztA ?_; clear H; intro _ _ H _) | fail)
    · rename_i h
      repeat' ((conv => whnf); first | refine ztS ?_ | (refine ztB ?_ ?_ <;> intro _ <;> try (exfalso; omega)) | (refine ztA ?_; clear H; intro _ _ H _) | fail)
      exact ⟨b_eq (by simp [ET.e, sameE, h]), H.e⟩
    · rename_i h
      repeat' ((conv => whnf); first | refine ztS ?_ | (refine ztB ?_ ?_ <;> intro _ <;> try (exfalso; omega)) | (refine ztA ?_; clear H; intro _ _ H _) | fail)
      exact ⟨b_eq (by simp [ET.e, sameE, h]), H.e⟩
    · rename_i h
      repeat' ((conv => whnf); first | refine ztS ?_ | (refine ztB ?_ ?_ <;> intro _ <;> try (exfalso; omega)) | (refine ztA ?_; clear H; intro _ _ H _) | fail)
      exact ⟨b_eq (by simp [ET.e, sameE, h]), H.e⟩
    · rename_i h
      repeat' ((conv => whnf); first | refine ztS ?_ | (refine ztB ?_ ?_ <;> intro _ <;> try (exfalso; omega)) | (refine ztA ?_; clear H; intro _ _ H _) | fail)
      exact ⟨b_eq (by simp only [ET.e, sameE]; rw [sameL_ne (by rw [ET.es_len, ET.es_len]; omega)]; simp), H.e⟩
    · rename_i h1 h2 h3 h4 h5 h6
      rw [bs_eq] at h4 h5
      have h4 := of_decide_eq_true h4
      have h5 := of_decide_eq_true h5
      have hl : l1.length = l2.length := by omega
      have hE : sameE (ET.e (.mk k1 o1 n1 a1 b1 A1 c1 l1)) (ET.e (.mk k2 o2 n2 a2 b2 A2 c2 l2)) = sameL (ET.es l1) (ET.es l2) := by simp [ET.e, sameE, h1, h2, h3, h4, h5]
      rw [hE]
      clear h1 h2 h3 h4 h5 h6 hE
      have hq1 := hx.1
      have hq2 := hy.1
      have hlb : l1.length ≤ 9000000 := hx.2.2
      repeat' ((conv => whnf); first | refine ztS ?_ | (refine ztB ?_ ?_ <;> intro _ <;> try (exfalso; omega)) | (refine ztA ?_; clear H; intro _ _ H _) | fail)
      refine Lp.g0 T.ok (σ := Nat) (fun i => [(5, .int .i64 (i : Int)), (2, .pointer (some ⟨p2, 0, none⟩)), (3, .pointer (some ⟨p3, 0, none⟩))])
        (fun i w' => i ≤ l1.length ∧ sameL (ET.es l1) (ET.es l2) = sameL ((ET.es l1).drop i) ((ET.es l2).drop i) ∧ Hp nw w w' [bk p3 74 [.int .i64 k2, .int .i64 o2, .int .i64 n2, .string (bs a2), .string (bs b2), .slice A2 l2.length c2], bk p2 74 [.int .i64 k1, .int .i64 o1, .int .i64 n1, .string (bs a1), .string (bs b1), .slice A1 l1.length c1]]) (fun i _ => l1.length - i) 0 rfl ⟨rfl, rfl, rfl, trivial⟩ ⟨Nat.zero_le _, rfl, H⟩ ?_
      clear H
      rintro i w5 ⟨hi, hs, H⟩
      by_cases hlt : i < l1.length
      · obtain ⟨u, hu⟩ : ∃ u, l1[i]? = some u := ⟨_, List.getElem?_eq_getElem hlt⟩
        obtain ⟨v, hv⟩ : ∃ v, l2[i]? = some v := ⟨_, List.getElem?_eq_getElem (show i < l2.length by omega)⟩
        have hr1 := RdS.from H.e hq1
        have hr2 := RdS.from H.e hq2
        have hlt2 : i < l2.length := by omega
        have hd1 : (ET.es l1).drop i = ET.e u :: (ET.es l1).drop (i + 1) := by
          obtain ⟨g1, g2⟩ := List.getElem?_eq_some_iff.1 hu
          rw [← ET.es_drop, List.drop_eq_getElem_cons g1, g2, ET.es, ET.es_drop]
        have hd2 : (ET.es l2).drop i = ET.e v :: (ET.es l2).drop (i + 1) := by
          obtain ⟨g1, g2⟩ := List.getElem?_eq_some_iff.1 hv
          rw [← ET.es_drop, List.drop_eq_getElem_cons g1, g2, ET.es, ET.es_drop]
        rw [hd1, hd2, sameL] at hs
        repeat' ((conv => whnf); first | refine ztS ?_ | (refine ztB ?_ ?_ <;> intro _ <;> try (exfalso; omega)) | (refine ztA ?_; clear H; intro _ _ H _) | fail)
        have hzn : ET.sz u ≤ n := by
          have := ET.sz_mem (List.mem_of_getElem? hu)
          simp only [ET.sz] at hn
          omega
        ((conv => whnf); refine Dr.tail T.ok mixed 10 (by kernel_rfl) (fun W wT hW eT _ => ?_); (repeat' ((conv => whnf); first | refine ztQ ?_ | (refine ztB ?_ ?_ <;> intro _ <;> try (exfalso; omega)) | fail)); replace H := H.ext eT; clear hW eT)
        (((conv => whnf); refine Cl.mk (sameExpr_l n u v _ hzn ((ET.los_mem (List.mem_of_getElem? hu) hx.2.1).ext H.e) ((ET.los_mem (List.mem_of_getElem? hv) hy.2.1).ext H.e)) ?_); rintro _ _ ⟨rfl, hx⟩; replace H := H.ext hx; clear hx)
        cases hb : sameE u.e v.e with
        | true =>
          rw [hb, Bool.true_and] at hs
          repeat' ((conv => whnf); first | refine ztS ?_ | (refine ztB ?_ ?_ <;> intro _ <;> try (exfalso; omega)) | (refine ztA ?_; clear H; intro _ _ H _) | fail)
          exact ⟨i + 1, ⟨at_int (m := ((i + 1 : Nat) : Int)) rfl (w64 (by simp) (by omega) (by omega)), rfl, rfl, trivial⟩, rfl, ⟨by omega, hs, H⟩, by omega⟩
        | false =>
          rw [hb, Bool.false_and] at hs
          repeat' ((conv => whnf); first | refine ztS ?_ | (refine ztB ?_ ?_ <;> intro _ <;> try (exfalso; omega)) | (refine ztA ?_; clear H; intro _ _ H _) | fail)
          exact ⟨b_eq hs.symm, H.e⟩
      · have h1 : (ET.es l1).drop i = [] := List.drop_of_length_le (by rw [ET.es_len]; omega)
        have h2 : (ET.es l2).drop i = [] := List.drop_of_length_le (by rw [ET.es_len]; omega)
        rw [h1, h2] at hs
        repeat' ((conv => whnf); first | refine ztS ?_ | (refine ztB ?_ ?_ <;> intro _ <;> try (exfalso; omega)) | (refine ztA ?_; clear H; intro _ _ H _) | fail)
        all_goals first | (exfalso; omega) | skip
        exact ⟨b_eq hs.symm, H.e⟩
    · rename_i h
      rw [bs_eq] at h
      have h := of_decide_eq_false h
      repeat' ((conv => whnf); first | refine ztS ?_ | (refine ztB ?_ ?_ <;> intro _ <;> try (exfalso; omega)) | (refine ztA ?_; clear H; intro _ _ H _) | fail)
      exact ⟨b_eq (by simp [ET.e, sameE, h]), H.e⟩
    · rename_i h
      rw [bs_eq] at h
      have h := of_decide_eq_false h
      repeat' ((conv => whnf); first | refine ztS ?_ | (refine ztB ?_ ?_ <;> intro _ <;> try (exfalso; omega)) | (refine ztA ?_; clear H; intro _ _ H _) | fail)
      exact ⟨b_eq (by simp [ET.e, sameE, h]), H.e⟩
end Go.Proofs.YtfnjodpehomgfaaGreatDoor
namespace Go.Proofs.YtfnjodpehomgfaaGreatDoor
open Go Go.Sh Go.Tx
theorem QLd.rsF {α : Type} {enc : α → List Value} {sz i o n : Nat} {W : World → Prop} {Rl : World → World → Prop} {w : World} {A : Option Addr} {l : List α} {x : α} {k : List Value → Prop} (hW : QW W w Rl) (h : RdS enc sz w A l) (hx : l[i]? = some x) (hn : (((enc x).drop o).take n).length = n) (hk : k (((enc x).drop o).take n)) : QLd W (pAdd ((gA A).add (i * sz)) o) n k := by
  refine ⟨_, fun w' hw' => ⟨hn, fun j v hv => ?_⟩, hk⟩
  obtain ⟨vs, h1, h2, h3⟩ := Rd.at_ (RdS.from (hW.1 w' hw') h) i x hx
  unfold Fl at h2
  subst h2
  have hj : j < n := by
    have := (List.getElem?_eq_some_iff.1 hv).1
    omega
  rw [List.getElem?_take_of_lt hj, List.getElem?_drop] at hv
  have := h3 (o + j) v hv
  rw [pAdd_add, add_add]
  rw [Nat.add_assoc]
  exact this
attribute [local irreducible] Blk Ext RdS
mutual
def sameT : Go.Tx.St → Go.Tx.St → Bool
  | .mk k a e b f, .mk k2 a2 e2 b2 f2 => k == k2 && a == a2 && sameE e e2 && sameU b b2 && sameU f f2
def sameU : List Go.Tx.St → List Go.Tx.St → Bool
  | [], [] => true
  | x :: r, y :: s => sameT x y && sameU r s
  | [], _ :: _ => false
  | _ :: _, [] => false
end
theorem sameU_len : ∀ {l m : List Go.Tx.St}, sameU l m = true → l.length = m.length
  | [], [], _ => rfl
  | x :: r, y :: s, h => by
    simp only [sameU, Bool.and_eq_true] at h
    simp [sameU_len h.2]
  | [], _ :: _, h => by simp [sameU] at h
  | _ :: _, [], h => by simp [sameU] at h
theorem sameU_ne {l m : List Go.Tx.St} (h : l.length ≠ m.length) : sameU l m = false := by
  cases hx : sameU l m with
  | false => rfl
  | true => exact absurd (sameU_len hx) h
mutual
def SM.sz : SM → Nat
  | .mk _ _ _ _ _ b _ _ f => SM.szs b + SM.szs f + 1
def SM.szs : List SM → Nat
  | [] => 0
  | x :: r => SM.sz x + SM.szs r
end
theorem SM.sz_mem {x : SM} : ∀ {l : List SM}, x ∈ l → SM.sz x ≤ SM.szs l
  | [], h => by simp at h
  | y :: r, h => by
    simp only [SM.szs]
    rcases List.mem_cons.1 h with rfl | h
    · omega
    · have := SM.sz_mem h; omega
theorem SM.oks_mem {w : World} {x : SM} : ∀ {l : List SM}, x ∈ l → SM.Oks w l → SM.Ok w x
  | [], h, _ => by simp at h
  | y :: r, h, hk => by
    rcases List.mem_cons.1 h with rfl | h
    · exact hk.1
    · exact SM.oks_mem h hk.2
theorem SM.es_drop : ∀ (l : List SM) (i : Nat), SM.es (l.drop i) = (SM.es l).drop i
  | l, 0 => by simp
  | [], i + 1 => by simp [SM.es]
  | x :: r, i + 1 => by simp [SM.es, SM.es_drop r i]
theorem SM.Oks.ext {w w' : World} {l : List SM} (h : SM.Oks w l) (e : Ext w w') : SM.Oks w' l := SM.Oks.loc e.size h fun b hb => by
  have e2 := e
  unfold Ext at e2
  exact Go.RowKit.Below.block e2 b (SM.Oks.lt h b hb)
theorem ET.Oks.ext {w w' : World} {l : List ET} (h : ET.Oks w l) (e : Ext w w') : ET.Oks w' l := ET.Oks.loc e.size h fun b hb => by
  have e2 := e
  unfold Ext at e2
  exact Go.RowKit.Below.block e2 b (ET.Oks.lt h b hb)
mutual
def SM.Lo (w : World) : SM → Prop
  | .mk _ _ e B _ b E _ f => ET.Lo w e ∧ RdS SM.enc 10 w B b ∧ SM.Los w b ∧ RdS SM.enc 10 w E f ∧ SM.Los w f ∧ b.length ≤ 9000000 ∧ f.length ≤ 9000000
def SM.Los (w : World) : List SM → Prop
  | [] => True
  | x :: r => SM.Lo w x ∧ SM.Los w r
end
mutual
theorem SM.Lo.ext {w w' : World} (e : Ext w w') : ∀ {t : SM}, SM.Lo w t → SM.Lo w' t
  | .mk _ _ _ _ _ _ _ _ _, h => ⟨h.1.ext e, RdS.from e h.2.1, SM.Los.ext e h.2.2.1, RdS.from e h.2.2.2.1, SM.Los.ext e h.2.2.2.2.1, h.2.2.2.2.2⟩
theorem SM.Los.ext {w w' : World} (e : Ext w w') : ∀ {l : List SM}, SM.Los w l → SM.Los w' l
  | [], _ => trivial
  | _ :: _, h => ⟨SM.Lo.ext e h.1, SM.Los.ext e h.2⟩
end
mutual
theorem SM.Ok.lo {w : World} : ∀ {t : SM}, SM.Ok w t → SM.Lo w t
  | .mk _ _ _ _ _ _ _ _ _, h => ⟨h.1.lo, h.2.1.rd, SM.Oks.los h.2.2.1, h.2.2.2.1.rd, SM.Oks.los h.2.2.2.2.1, Nat.le_trans h.2.2.2.2.2.1 (by decide), Nat.le_trans h.2.2.2.2.2.2 (by decide)⟩
theorem SM.Oks.los {w : World} : ∀ {l : List SM}, SM.Oks w l → SM.Los w l
  | [], _ => trivial
  | _ :: _, h => ⟨SM.Ok.lo h.1, SM.Oks.los h.2⟩
end
theorem SM.los_mem {w : World} {x : SM} : ∀ {l : List SM}, x ∈ l → SM.Los w l → SM.Lo w x
  | [], h, _ => by simp at h
  | y :: r, h, hk => by
    rcases List.mem_cons.1 h with rfl | h
    · exact hk.1
    · exact SM.los_mem h hk.2
def FM.Lo (w : World) (f : FM) : Prop := RdS strE 1 w f.P f.params ∧ RdS SM.enc 10 w f.B f.body ∧ SM.Los w f.body ∧ f.params.length ≤ 9000000 ∧ f.body.length ≤ 9000000
set_option maxHeartbeats 8000000 in
theorem sameStmts_c : ∀ (n : Nat) (l m : List SM) (A B : Option Addr) (ca cb : Nat) (w : World), SM.szs l < n → RdS SM.enc 10 w A l → SM.Los w l → RdS SM.enc 10 w B m → SM.Los w m → l.length ≤ 9000000 →
    Cl Tryz.prog 35 #[.slice A l.length ca, .slice B m.length cb] w (fun v w' => v = .bool (sameU (SM.es l) (SM.es m)) ∧ Ext w w') (fun _ _ => False)
  | 0, l, m, A, B, ca, cb, w, hn, _, _, _, _, _ => by omega
  | n + 1, l, m, A, B, ca, cb, w, hn, hrl, hol, hrm, hom, hlb => by
    refine calls_ex (args := [.slice A l.length ca, .slice B m.length cb]) T.ok Tryz.func35 rfl rfl rfl rfl ?_
    have H := Hp.begin nw w
    by_cases hlen : l.length = m.length
    case neg =>
      repeat' ((conv => whnf); first | refine ztS ?_ | (refine ztB ?_ ?_ <;> intro _ <;> try (exfalso; omega)) | (refine ztA ?_; clear H; intro _ _ H _) | fail)
      all_goals first | (exfalso; omega) | skip
      exact ⟨b_eq (sameU_ne (by rw [SM.es_len, SM.es_len]; exact hlen)).symm, H.e⟩
    repeat' ((conv => whnf); first | refine ztS ?_ | (refine ztB ?_ ?_ <;> intro _ <;> try (exfalso; omega)) | (refine ztA ?_; clear H; intro _ _ H _) | fail)
    all_goals first | (exfalso; omega) | skip
    refine Lp.g0 T.ok (σ := Nat) (fun i => [(5, .int .i64 (i : Int)), (0, .slice A l.length ca), (1, .slice B m.length cb)])
      (fun i w' => i ≤ l.length ∧ sameU (SM.es l) (SM.es m) = sameU ((SM.es l).drop i) ((SM.es m).drop i) ∧ Hp nw w w' []) (fun i _ => l.length - i) 0 rfl ⟨rfl, rfl, rfl, trivial⟩ ⟨Nat.zero_le _, rfl, H⟩ ?_
    clear H
    rintro i w5 ⟨hi, hs, H⟩
    by_cases hlt : i < l.length
    case neg =>
      have h1 : (SM.es l).drop i = [] := List.drop_of_length_le (by rw [SM.es_len]; omega)
      have h2 : (SM.es m).drop i = [] := List.drop_of_length_le (by rw [SM.es_len]; omega)
      rw [h1, h2] at hs
      repeat' ((conv => whnf); first | refine ztS ?_ | (refine ztB ?_ ?_ <;> intro _ <;> try (exfalso; omega)) | (refine ztA ?_; clear H; intro _ _ H _) | fail)
      all_goals first | (exfalso; omega) | skip
      exact ⟨b_eq hs.symm, H.e⟩
    obtain ⟨u, hu⟩ : ∃ u, l[i]? = some u := ⟨_, List.getElem?_eq_getElem hlt⟩
    obtain ⟨v, hv⟩ : ∃ v, m[i]? = some v := ⟨_, List.getElem?_eq_getElem (show i < m.length by omega)⟩
    have hlt2 : i < m.length := by omega
    have hd1 : (SM.es l).drop i = SM.e u :: (SM.es l).drop (i + 1) := by
      obtain ⟨g1, g2⟩ := List.getElem?_eq_some_iff.1 hu
      rw [← SM.es_drop, List.drop_eq_getElem_cons g1, g2, SM.es, SM.es_drop]
    have hd2 : (SM.es m).drop i = SM.e v :: (SM.es m).drop (i + 1) := by
      obtain ⟨g1, g2⟩ := List.getElem?_eq_some_iff.1 hv
      rw [← SM.es_drop, List.drop_eq_getElem_cons g1, g2, SM.es, SM.es_drop]
    rw [hd1, hd2, sameU] at hs
    have hzn := SM.sz_mem (List.mem_of_getElem? hu)
    have hou := SM.los_mem (List.mem_of_getElem? hu) (hol.ext H.e)
    have hov := SM.los_mem (List.mem_of_getElem? hv) (hom.ext H.e)
    have hr1 := RdS.from H.e hrl
    have hr2 := RdS.from H.e hrm
    obtain ⟨k1, a1, ⟨kd1, o1, n1, nm1, cb1, A1, c1, l1⟩, B1, cB1, b1, E1, cE1, f1⟩ := u
    obtain ⟨k2, a2, ⟨kd2, o2, n2, nm2, cb2, A2, c2, l2⟩, B2, cB2, b2, E2, cE2, f2⟩ := v
    repeat' ((conv => whnf); first | refine ztS ?_ | (refine ztB ?_ ?_ <;> intro _ <;> try (exfalso; omega)) | (refine ztA ?_; clear H; intro _ _ H _) | fail)
    ((conv => whnf); refine Dr.quiet T.ok mixed (by kernel_rfl) (fun W hW => ?_))
    repeat' (first | ((conv => whnf); first | refine ztQ ?_ | (refine ztB ?_ ?_ <;> intro _ <;> try (exfalso; omega)) | fail) | ((conv => whnf); refine QLd.rsF (o := 2) (n := 6) hW hr1 hu rfl ?_) | ((conv => whnf); refine QLd.rsF (o := 2) (n := 6) hW hr2 hv rfl ?_) | ((conv => whnf); refine QCl.mk hW (fun _ ee => Cl.mk (sameExpr_l _ (.mk kd1 o1 n1 nm1 cb1 A1 c1 l1) (.mk kd2 o2 n2 nm2 cb2 A2 c2 l2) _ (Nat.le_refl _) (hou.1.ext ee) (hov.1.ext ee)) (fun _ _ h => h)) ?_))
    · rename_i hkk
      (intro _ eT; replace H := H.ext eT; clear hW eT)
      repeat' ((conv => whnf); first | refine ztS ?_ | (refine ztB ?_ ?_ <;> intro _ <;> try (exfalso; omega)) | (refine ztA ?_; clear H; intro _ _ H _) | fail)
      refine ⟨b_eq ?_, H.e⟩
      rw [hs]
      simp [SM.e, sameT, hkk]
    · rename_i hkk haa
      rw [bs_eq] at haa
      have haa := of_decide_eq_true haa
      have hT : sameT (SM.e (.mk k1 a1 (.mk kd1 o1 n1 nm1 cb1 A1 c1 l1) B1 cB1 b1 E1 cE1 f1)) (SM.e (.mk k2 a2 (.mk kd2 o2 n2 nm2 cb2 A2 c2 l2) B2 cB2 b2 E2 cE2 f2)) = (sameE (ET.e (.mk kd1 o1 n1 nm1 cb1 A1 c1 l1)) (ET.e (.mk kd2 o2 n2 nm2 cb2 A2 c2 l2)) && sameU (SM.es b1) (SM.es b2) && sameU (SM.es f1) (SM.es f2)) := by
        simp [SM.e, sameT, hkk, haa]
      rw [hT] at hs
      (intro _ eT; replace H := H.ext eT; clear hW eT)
      cases hse : sameE (ET.e (.mk kd1 o1 n1 nm1 cb1 A1 c1 l1)) (ET.e (.mk kd2 o2 n2 nm2 cb2 A2 c2 l2)) with
      | false =>
        rw [hse] at hs
        repeat' ((conv => whnf); first | refine ztS ?_ | (refine ztB ?_ ?_ <;> intro _ <;> try (exfalso; omega)) | (refine ztA ?_; clear H; intro _ _ H _) | fail)
        exact ⟨b_eq (by rw [hs]; simp), H.e⟩
      | true =>
        rw [hse, Bool.true_and] at hs
        repeat' ((conv => whnf); first | refine ztS ?_ | (refine ztB ?_ ?_ <;> intro _ <;> try (exfalso; omega)) | (refine ztA ?_; clear H; intro _ _ H _) | fail)
        have hr1 := RdS.from H.e hrl
        have hr2 := RdS.from H.e hrm
        have hou := SM.los_mem (List.mem_of_getElem? hu) (hol.ext H.e)
        have hov := SM.los_mem (List.mem_of_getElem? hv) (hom.ext H.e)
        obtain ⟨_, q1, p1, q2, p2, g1, g2⟩ := hou
        obtain ⟨_, q3, p3, q4, p4, g3, g4⟩ := hov
        simp only [SM.sz] at hzn
        ((conv => whnf); refine Dr.quiet T.ok mixed (by kernel_rfl) (fun W hW => ?_))
        cases hb : sameU (SM.es b1) (SM.es b2) with
        | false =>
          rw [hb] at hs
          repeat' (first | ((conv => whnf); first | refine ztQ ?_ | (refine ztB ?_ ?_ <;> intro _ <;> try (exfalso; omega)) | fail) | (((conv => whnf); refine QCl.mk hW (fun _ ee => Cl.mk (sameStmts_c n b1 b2 B1 B2 cB1 cB2 _ (by omega) (RdS.from ee q1) (p1.ext ee) (RdS.from ee q3) (p3.ext ee) g1) (fun _ _ h => h)) ?_); rw [hb]))
          (intro _ eT; replace H := H.ext eT; clear hW eT)
          repeat' ((conv => whnf); first | refine ztS ?_ | (refine ztB ?_ ?_ <;> intro _ <;> try (exfalso; omega)) | (refine ztA ?_; clear H; intro _ _ H _) | fail)
          exact ⟨b_eq (by rw [hs]; simp), H.e⟩
        | true =>
          rw [hb, Bool.true_and] at hs
          repeat' (first | ((conv => whnf); first | refine ztQ ?_ | (refine ztB ?_ ?_ <;> intro _ <;> try (exfalso; omega)) | fail) | (((conv => whnf); refine QCl.mk hW (fun _ ee => Cl.mk (sameStmts_c n b1 b2 B1 B2 cB1 cB2 _ (by omega) (RdS.from ee q1) (p1.ext ee) (RdS.from ee q3) (p3.ext ee) g1) (fun _ _ h => h)) ?_); rw [hb]) | ((conv => whnf); refine QCl.mk hW (fun _ ee => Cl.mk (sameStmts_c n f1 f2 E1 E2 cE1 cE2 _ (by omega) (RdS.from ee q2) (p2.ext ee) (RdS.from ee q4) (p4.ext ee) g2) (fun _ _ h => h)) ?_))
          (intro _ eT; replace H := H.ext eT; clear hW eT)
          repeat' ((conv => whnf); first | refine ztS ?_ | (refine ztB ?_ ?_ <;> intro _ <;> try (exfalso; omega)) | (refine ztA ?_; clear H; intro _ _ H _) | fail)
          · rename_i hf
            rw [hf, Bool.true_and] at hs
            repeat' ((conv => whnf); first | refine ztS ?_ | (refine ztB ?_ ?_ <;> intro _ <;> try (exfalso; omega)) | (refine ztA ?_; clear H; intro _ _ H _) | fail)
            exact ⟨i + 1, ⟨at_int (m := ((i + 1 : Nat) : Int)) rfl (w64 (by simp) (by omega) (by omega)), rfl, rfl, trivial⟩, rfl, ⟨by omega, hs, H⟩, by omega⟩
          · rename_i hf
            rw [hf, Bool.false_and] at hs
            repeat' ((conv => whnf); first | refine ztS ?_ | (refine ztB ?_ ?_ <;> intro _ <;> try (exfalso; omega)) | (refine ztA ?_; clear H; intro _ _ H _) | fail)
            exact ⟨b_eq hs.symm, H.e⟩
    · rename_i hkk haa
      rw [bs_eq] at haa
      have haa := of_decide_eq_false haa
      (intro _ eT; replace H := H.ext eT; clear hW eT)
      repeat' ((conv => whnf); first | refine ztS ?_ | (refine ztB ?_ ?_ <;> intro _ <;> try (exfalso; omega)) | (refine ztA ?_; clear H; intro _ _ H _) | fail)
      refine ⟨b_eq ?_, H.e⟩
      rw [hs]
      simp [SM.e, sameT, haa]
def sameF (f g : Fnc) : Bool := f.name == g.name && f.params == g.params && sameU f.body g.body
def sameP : List Fnc → List Fnc → Bool
  | [], [] => true
  | x :: r, y :: s => sameF x y && sameP r s
  | [], _ :: _ => false
  | _ :: _, [] => false
theorem sameP_len : ∀ {l m : List Fnc}, sameP l m = true → l.length = m.length
  | [], [], _ => rfl
  | x :: r, y :: s, h => by
    simp only [sameP, Bool.and_eq_true] at h
    simp [sameP_len h.2]
  | [], _ :: _, h => by simp [sameP] at h
  | _ :: _, [], h => by simp [sameP] at h
theorem sameP_ne {l m : List Fnc} (h : l.length ≠ m.length) : sameP l m = false := by
  cases hx : sameP l m with
  | false => rfl
  | true => exact absurd (sameP_len hx) h
theorem FM.oks_mem {w : World} {x : FM} : ∀ {l : List FM}, x ∈ l → FM.Oks w l → FM.Ok w x
  | [], h, _ => by simp at h
  | y :: r, h, hk => by
    rcases List.mem_cons.1 h with rfl | h
    · exact hk.1
    · exact FM.oks_mem h hk.2
theorem FM.Oks.ext {w w' : World} {l : List FM} (h : FM.Oks w l) (e : Ext w w') : FM.Oks w' l := FM.Oks.loc e.size h fun b hb => by
  have e2 := e
  unfold Ext at e2
  exact Go.RowKit.Below.block e2 b (FM.Oks.lt h b hb)
set_option maxHeartbeats 8000000 in
theorem same_l (l m : List FM) (A B : Option Addr) (ca cb : Nat) (w : World) (hrl : RdS FM.enc 3 w A l) (hol : ∀ f ∈ l, FM.Lo w f) (hrm : RdS FM.enc 3 w B m) (hom : ∀ f ∈ m, FM.Lo w f) (hlb : l.length ≤ 9000000) :
    Cl Tryz.prog 13 #[.agg #[.slice A l.length ca], .agg #[.slice B m.length cb]] w (fun v w' => v = .bool (sameP (l.map FM.e) (m.map FM.e)) ∧ Ext w w') (fun _ _ => False) := by
  refine calls_ex (args := [.agg #[.slice A l.length ca], .agg #[.slice B m.length cb]]) T.ok Tryz.func13 rfl rfl rfl rfl ?_
  have H := Hp.begin nw w
  refine Sq.mk ?_
  ((conv => whnf); refine Al.hp H ?_; clear H; intro p2 _ H _)
  ((conv => whnf); refine Al.hp H ?_; clear H; intro p3 _ H _)
  by_cases hlen : l.length = m.length
  case neg =>
    repeat' ((conv => whnf); first | refine ztS ?_ | (refine ztB ?_ ?_ <;> intro _ <;> try (exfalso; omega)) | (refine ztA ?_; clear H; intro _ _ H _) | fail)
    all_goals first | (exfalso; omega) | skip
    exact ⟨b_eq (sameP_ne (by rw [List.length_map, List.length_map]; exact hlen)).symm, H.e⟩
  repeat' ((conv => whnf); first | refine ztS ?_ | (refine ztB ?_ ?_ <;> intro _ <;> try (exfalso; omega)) | (refine ztA ?_; clear H; intro _ _ H _) | fail)
  all_goals first | (exfalso; omega) | skip
  refine Lp.g0 T.ok (σ := Nat) (fun i => [(5, .int .i64 (i : Int)), (2, .pointer (some ⟨p2, 0, none⟩)), (3, .pointer (some ⟨p3, 0, none⟩))])
    (fun i w' => i ≤ l.length ∧ sameP (l.map FM.e) (m.map FM.e) = sameP ((l.map FM.e).drop i) ((m.map FM.e).drop i) ∧ Hp nw w w' [bk p3 24 [.slice B m.length cb], bk p2 24 [.slice A l.length ca]]) (fun i _ => l.length - i) 0 rfl ⟨rfl, rfl, rfl, trivial⟩ ⟨Nat.zero_le _, rfl, H⟩ ?_
  clear H
  rintro i w5 ⟨hi, hs, H⟩
  by_cases hlt : i < l.length
  case neg =>
    have h1 : (l.map FM.e).drop i = [] := List.drop_of_length_le (by rw [List.length_map]; omega)
    have h2 : (m.map FM.e).drop i = [] := List.drop_of_length_le (by rw [List.length_map]; omega)
    rw [h1, h2] at hs
    repeat' ((conv => whnf); first | refine ztS ?_ | (refine ztB ?_ ?_ <;> intro _ <;> try (exfalso; omega)) | (refine ztA ?_; clear H; intro _ _ H _) | fail)
    all_goals first | (exfalso; omega) | skip
    exact ⟨b_eq hs.symm, H.e⟩
  obtain ⟨u, hu⟩ : ∃ u, l[i]? = some u := ⟨_, List.getElem?_eq_getElem hlt⟩
  obtain ⟨v, hv⟩ : ∃ v, m[i]? = some v := ⟨_, List.getElem?_eq_getElem (show i < m.length by omega)⟩
  have hlt2 : i < m.length := by omega
  have hd1 : (l.map FM.e).drop i = FM.e u :: (l.map FM.e).drop (i + 1) := by
    obtain ⟨g1, g2⟩ := List.getElem?_eq_some_iff.1 hu
    rw [← List.map_drop, List.drop_eq_getElem_cons g1, g2, List.map_cons, List.map_drop]
  have hd2 : (m.map FM.e).drop i = FM.e v :: (m.map FM.e).drop (i + 1) := by
    obtain ⟨g1, g2⟩ := List.getElem?_eq_some_iff.1 hv
    rw [← List.map_drop, List.drop_eq_getElem_cons g1, g2, List.map_cons, List.map_drop]
  rw [hd1, hd2, sameP] at hs
  have hou := hol _ (List.mem_of_getElem? hu)
  have hov := hom _ (List.mem_of_getElem? hv)
  have hr1 := RdS.from H.e hrl
  have hr2 := RdS.from H.e hrm
  obtain ⟨a1, P1, c1, ps1, B1, cB1, b1⟩ := u
  obtain ⟨a2, P2, c2, ps2, B2, cB2, b2⟩ := v
  obtain ⟨q1, q2, o1, g1, g2⟩ := hou
  obtain ⟨q3, q4, o2, g3, g4⟩ := hov
  simp only at q1 q2 q3 q4 o1 o2 g1 g2 g3 g4
  repeat' ((conv => whnf); first | refine ztS ?_ | (refine ztB ?_ ?_ <;> intro _ <;> try (exfalso; omega)) | (refine ztW ?_; clear H; intro _ _ H _) | fail)
  all_goals first | (exfalso; omega) | skip
  ((conv => whnf); refine Al.hp H ?_; clear H; intro p6 _ H _)
  repeat' ((conv => whnf); first | refine ztS ?_ | (refine ztB ?_ ?_ <;> intro _ <;> try (exfalso; omega)) | (refine ztW ?_; clear H; intro _ _ H _) | fail)
  ((conv => whnf); refine Al.hp H ?_; clear H; intro p7 _ H _)
  repeat' ((conv => whnf); first | refine ztS ?_ | (refine ztB ?_ ?_ <;> intro _ <;> try (exfalso; omega)) | (refine ztW ?_; clear H; intro _ _ H _) | fail)
  · rename_i hnn hll
    rw [bs_eq] at hnn
    have hll : ¬ ps1.length = ps2.length := fun h => hll (by show (ps1.length : Int) = (ps2.length : Int); rw [h])
    repeat' ((conv => whnf); first | refine ztS ?_ | (refine ztB ?_ ?_ <;> intro _ <;> try (exfalso; omega)) | (refine ztW ?_; clear H; intro _ _ H _) | fail)
    refine ⟨b_eq ?_, H.e⟩
    rw [hs]
    have : ¬ ps1 = ps2 := fun h => hll (by rw [h])
    simp [FM.e, sameF, this]
  · rename_i hnn hll
    rw [bs_eq] at hnn
    have hnn : a1 = a2 := of_decide_eq_true hnn
    have hll : ps1.length = ps2.length := Int.ofNat.inj hll
    subst hnn
    have hfix : ∀ w', Hp nw w w' [bk p7 34 [.string (bs a1), .slice P2 ps2.length c2, .slice B2 b2.length cB2], bk p6 34 [.string (bs a1), .slice P1 ps1.length c1, .slice B1 b1.length cB1], bk p3 24 [.slice B m.length cb], bk p2 24 [.slice A l.length ca]] → Hp nw w w' [bk p7 34 [.string (bs a1), .slice P2 ps2.length c2, .slice B2 b2.length cB2], bk p6 34 [.string (bs a1), .slice P1 ps1.length c1, .slice B1 b1.length cB1], bk p3 24 [.slice B m.length cb], bk p2 24 [.slice A l.length ca]] := fun _ h => h
    replace H := hfix _ H
    clear hfix hr1 hr2
    repeat' ((conv => whnf); first | refine ztS ?_ | (refine ztB ?_ ?_ <;> intro _ <;> try (exfalso; omega)) | (refine ztW ?_; clear H; intro _ _ H _) | fail)
    refine Lp.g0 T.ok (σ := Nat) (fun j => [(8, .int .i64 (j : Int)), (5, .int .i64 (i : Int)), (6, .pointer (some ⟨p6, 0, none⟩)), (7, .pointer (some ⟨p7, 0, none⟩)), (2, .pointer (some ⟨p2, 0, none⟩)), (3, .pointer (some ⟨p3, 0, none⟩))])
      (fun j w' => j ≤ ps1.length ∧ ps1.take j = ps2.take j ∧ Hp nw w w' [bk p7 34 [.string (bs a1), .slice P2 ps2.length c2, .slice B2 b2.length cB2], bk p6 34 [.string (bs a1), .slice P1 ps1.length c1, .slice B1 b1.length cB1], bk p3 24 [.slice B m.length cb], bk p2 24 [.slice A l.length ca]]) (fun j _ => ps1.length - j) 0 rfl ⟨rfl, rfl, rfl, rfl, rfl, rfl, trivial⟩ ⟨Nat.zero_le _, rfl, H⟩ ?_
    clear H
    rintro j w7 ⟨hj, ht, H⟩
    by_cases hjl : j < ps1.length
    · obtain ⟨x, hx⟩ : ∃ x, ps1[j]? = some x := ⟨_, List.getElem?_eq_getElem hjl⟩
      obtain ⟨y, hy⟩ : ∃ y, ps2[j]? = some y := ⟨_, List.getElem?_eq_getElem (show j < ps2.length by omega)⟩
      have hjl2 : j < ps2.length := by omega
      have hq1 := RdS.from H.e q1
      have hq2 := RdS.from H.e q3
      obtain ⟨gx1, gx2⟩ := List.getElem?_eq_some_iff.1 hx
      obtain ⟨gy1, gy2⟩ := List.getElem?_eq_some_iff.1 hy
      repeat' ((conv => whnf); first | refine ztS ?_ | (refine ztB ?_ ?_ <;> intro _ <;> try (exfalso; omega)) | (refine ztW ?_; clear H; intro _ _ H _) | fail)
      ((conv => whnf); refine Dr.quiet T.ok mixed (by kernel_rfl) (fun W hW => ?_))
      repeat' ((conv => whnf); first | refine ztQ ?_ | (refine ztB ?_ ?_ <;> intro _ <;> try (exfalso; omega)) | fail)
      (intro _ eT; replace H := H.ext eT; clear hW eT)
      repeat' ((conv => whnf); first | refine ztS ?_ | (refine ztB ?_ ?_ <;> intro _ <;> try (exfalso; omega)) | (refine ztW ?_; clear H; intro _ _ H _) | fail)
      all_goals first | (exfalso; omega) | skip
      · rename_i hb
        rw [bs_eq] at hb
        have hb := of_decide_eq_true hb
        refine ⟨j + 1, ⟨at_int (m := ((j + 1 : Nat) : Int)) rfl (w64 (by simp) (by omega) (by omega)), rfl, rfl, rfl, rfl, rfl, trivial⟩, rfl, ⟨by omega, ?_, H⟩, by omega⟩
        rw [List.take_succ_eq_append_getElem gx1, List.take_succ_eq_append_getElem gy1, gx2, gy2, ht, hb]
      · rename_i hb
        rw [bs_eq] at hb
        have hb := of_decide_eq_false hb
        refine ⟨b_eq ?_, H.e⟩
        rw [hs]
        have : ¬ ps1 = ps2 := fun h => by
          subst h
          rw [hx] at hy
          exact hb (Option.some.inj hy)
        simp [FM.e, sameF, this]
    · have hpp : ps1 = ps2 := by
        have h1 : ps1.take j = ps1 := List.take_of_length_le (by omega)
        have h2 : ps2.take j = ps2 := List.take_of_length_le (by omega)
        rw [← h1, ht, h2]
      subst hpp
      repeat' ((conv => whnf); first | refine ztS ?_ | (refine ztB ?_ ?_ <;> intro _ <;> try (exfalso; omega)) | (refine ztW ?_; clear H; intro _ _ H _) | fail)
      all_goals first | (exfalso; omega) | skip
      have hT : sameF (FM.e ⟨a1, P1, c1, ps1, B1, cB1, b1⟩) (FM.e ⟨a1, P2, c2, ps1, B2, cB2, b2⟩) = sameU (SM.es b1) (SM.es b2) := by simp [FM.e, sameF]
      rw [hT] at hs
      (((conv => whnf); refine Cl.mk (sameStmts_c _ b1 b2 B1 B2 cB1 cB2 _ (Nat.lt_succ_self _) (RdS.from H.e q2) (o1.ext H.e) (RdS.from H.e q4) (o2.ext H.e) g2) ?_); rintro _ _ ⟨rfl, hx⟩; replace H := H.ext hx; clear hx)
      cases hb : sameU (SM.es b1) (SM.es b2) with
      | true =>
        rw [hb, Bool.true_and] at hs
        repeat' ((conv => whnf); first | refine ztS ?_ | (refine ztB ?_ ?_ <;> intro _ <;> try (exfalso; omega)) | (refine ztW ?_; clear H; intro _ _ H _) | fail)
        exact ⟨i + 1, ⟨at_int (m := ((i + 1 : Nat) : Int)) rfl (w64 (by simp) (by omega) (by omega)), rfl, rfl, trivial⟩, rfl, ⟨by omega, hs, H.sel [2, 2] rfl⟩, by omega⟩
      | false =>
        rw [hb, Bool.false_and] at hs
        repeat' ((conv => whnf); first | refine ztS ?_ | (refine ztB ?_ ?_ <;> intro _ <;> try (exfalso; omega)) | (refine ztW ?_; clear H; intro _ _ H _) | fail)
        exact ⟨b_eq hs.symm, H.e⟩
  · rename_i hnn
    rw [bs_eq] at hnn
    have hnn : ¬ a1 = a2 := of_decide_eq_false hnn
    repeat' ((conv => whnf); first | refine ztS ?_ | (refine ztB ?_ ?_ <;> intro _ <;> try (exfalso; omega)) | (refine ztW ?_; clear H; intro _ _ H _) | fail)
    refine ⟨b_eq ?_, H.e⟩
    rw [hs]
    simp [FM.e, sameF, hnn]
theorem FM.Ok.lo {w : World} {f : FM} (h : FM.Ok w f) : FM.Lo w f := ⟨h.1.rd, h.2.1.rd, SM.Oks.los h.2.2.1, Nat.le_trans h.2.2.2.1 (by decide), Nat.le_trans h.2.2.2.2 (by decide)⟩
end Go.Proofs.YtfnjodpehomgfaaGreatDoor
namespace Go.Tx
abbrev It := Bs × Bs
def rnd (l : List It) : Bs := l.flatMap fun x => x.1 ++ x.2
theorem rnd_app (a b : List It) : rnd (a ++ b) = rnd a ++ rnd b := by simp [rnd]
theorem rnd_cons (x : It) (b : List It) : rnd (x :: b) = x.1 ++ (x.2 ++ rnd b) := by simp [rnd]
theorem rnd_nil : rnd [] = [] := rfl
def itPar (b : Bool) (f : Bs → List It) (g : Bs) : List It := if b = true then (g, s_lp) :: (f [] ++ [([], s_rp)]) else f g
def itRest : List (Bs → List It) → List It
  | [] => []
  | f :: r => ([], s_comma) :: (f [32] ++ itRest r)
def itArgs : List (Bs → List It) → List It
  | [] => []
  | f :: r => f [] ++ itRest r
def kidI (fs : List (Bs → List It)) (i : Nat) : Bs → List It := fs.getD i (fun _ => [])
def itN (kd o n : Int) (nm cb : Bs) (ks : List Ex) (fs : List (Bs → List It)) (g : Bs) : List It :=
  if (sgK kd o).1 ≠ [] then itPar (decide ((sgE (ks.getD 0 .zero)).2 < (sgK kd o).2)) (kidI fs 0) g ++ ([32], (sgK kd o).1) :: itPar (decide ((sgE (ks.getD 1 .zero)).2 ≤ (sgK kd o).2)) (kidI fs 1) [32]
  else if kd = 0 then (if n < 0 then [(g, s_minus), ([], Go.Lib.decDigits n.natAbs)] else [(g, Go.Lib.decDigits n.natAbs)])
  else if kd = 1 then [(g, nm)]
  else if kd = 2 then (g, s_minus) :: itPar (decide ((sgE (ks.getD 0 .zero)).1 ≠ []) || posB (ks.getD 0 .zero)) (kidI fs 0) []
  else if kd = 3 then (g, s_bang) :: itPar (decide ((sgE (ks.getD 0 .zero)).1 ≠ [])) (kidI fs 0) []
  else if kd = 4 then (g, opNm o) :: ([], s_lp) :: (itArgs fs ++ [([], s_rp)])
  else if kd = 5 then (g, nm) :: ([], s_lp) :: (itArgs fs ++ [([], s_rp)])
  else if kd = 6 then (g, k_reduce) :: ([], s_lp) :: ([], nm) :: ([], s_comma) :: ([32], cb) :: (itRest fs ++ [([], s_rp)])
  else (g, k_each) :: ([], s_lp) :: ([], nm) :: (itRest fs ++ [([], s_rp)])
mutual
def itE : Ex → Bs → List It
  | .mk kd o n nm cb ks => itN kd o n nm cb ks (itEs ks)
def itEs : List Ex → List (Bs → List It)
  | [] => []
  | e :: r => itE e :: itEs r
end
def RndL : List (Bs → List It) → List Bs → Prop
  | [], [] => True
  | f :: fs, t :: ts => (∀ g, rnd (f g) = g ++ t) ∧ RndL fs ts
  | _, _ => False
theorem RndL.kid : ∀ {fs : List (Bs → List It)} {ts : List Bs}, RndL fs ts → ∀ i, i < ts.length → ∀ g, rnd (kidI fs i g) = g ++ ts.getD i []
  | [], [], _, i, hi, g => by simp at hi
  | f :: fs, t :: ts, h, 0, _, g => h.1 g
  | f :: fs, t :: ts, h, i + 1, hi, g => RndL.kid h.2 i (by simpa using hi) g
theorem itPar_rnd {b : Bool} {f : Bs → List It} {t : Bs} (h : ∀ g, rnd (f g) = g ++ t) (g : Bs) : rnd (itPar b f g) = g ++ par b t := by
  unfold itPar par
  split
  · simp [rnd_cons, rnd_app, rnd_nil, h, s_lp, s_rp]
  · exact h g
theorem itRest_rnd : ∀ {fs : List (Bs → List It)} {ts : List Bs}, RndL fs ts → ∀ x, rnd (itRest fs) = (if ts = [] then [] else [44, 32] ++ joinC ts) ∧ x ++ rnd (itRest fs) = joinC (x :: ts)
  | [], [], _, x => by simp [itRest, rnd_nil, joinC]
  | f :: fs, t :: ts, h, x => by
    obtain ⟨h1, h2⟩ := itRest_rnd h.2 t
    have e : rnd (itRest (f :: fs)) = [44, 32] ++ joinC (t :: ts) := by
      rw [← h2]
      simp [itRest, rnd_cons, rnd_app, h.1, s_comma]
    refine ⟨by rw [e]; simp, ?_⟩
    rw [e]
    simp [joinC]
theorem itArgs_rnd : ∀ {fs : List (Bs → List It)} {ts : List Bs}, RndL fs ts → rnd (itArgs fs) = joinC ts
  | [], [], _ => rfl
  | f :: fs, t :: ts, h => by
    rw [itArgs, rnd_app, h.1, List.nil_append]
    exact (itRest_rnd h.2 t).2
theorem itoa_eq (n : Int) : Go.Lib.itoa n = if n < 0 then 45 :: Go.Lib.decDigits n.natAbs else Go.Lib.decDigits n.natAbs := by
  unfold Go.Lib.itoa
  split
  · rfl
  · rw [show n.toNat = n.natAbs by omega]
theorem txEs_length : ∀ l : List Ex, (txEs l).length = l.length
  | [] => rfl
  | e :: r => by simp [txEs, txEs_length r]
mutual
theorem itE_rnd : ∀ (e : Ex) (g : Bs), exB e = true → rnd (itE e g) = g ++ txE e
  | .mk kd o n nm cb ks, g, hb => by
    simp only [exB, Bool.and_eq_true] at hb
    have ih := itEs_rnd ks hb.1
    have hlt := txEs_length ks
    have hh := hb.2
    simp only [itE, txE]
    unfold itN txN
    split
    · rename_i hne
      have h2 := kids_two hh hne
      rw [rnd_app, itPar_rnd (ih.kid 0 (by omega)), rnd_cons, itPar_rnd (ih.kid 1 (by omega))]
      simp
    · split
      · rw [itoa_eq]
        split <;> simp [rnd_cons, rnd_nil, s_minus]
      · split
        · simp [rnd_cons, rnd_nil]
        · split
          · rename_i h2
            have hm : ks.length = 1 := by simp [hdB, h2] at hh; exact hh.1.1.1.1
            rw [rnd_cons, itPar_rnd (ih.kid 0 (by omega))]
            simp [s_minus]
          · split
            · rename_i h3
              have hm : ks.length = 1 := by simp [hdB, h3] at hh; exact hh.1.1.1.1
              rw [rnd_cons, itPar_rnd (ih.kid 0 (by omega))]
              simp [s_bang]
            · split
              · simp [rnd_cons, rnd_app, rnd_nil, itArgs_rnd ih, s_lp, s_rp]
              · split
                · simp [rnd_cons, rnd_app, rnd_nil, itArgs_rnd ih, s_lp, s_rp]
                · split
                  · rename_i h6
                    have hm : ks.length = 3 := by simp [hdB, h6] at hh; exact hh.1.1.1.1
                    have hne : txEs ks ≠ [] := fun h => by rw [h] at hlt; simp at hlt; omega
                    simp [rnd_cons, rnd_app, rnd_nil, (itRest_rnd ih []).1, hne, s_lp, s_rp, s_comma]
                  · have hne : txEs ks ≠ [] := by
                      rename_i a1 a2 a3 a4 a5 a6 a7 a8
                      intro h
                      rw [h] at hlt
                      have hm : ks.length = 0 := by simpa using hlt.symm
                      rw [hm] at hh
                      unfold hdB at hh
                      repeat' split at hh
                      all_goals first | (simp at hh; done) | (simp at hh; omega) | omega
                    simp [rnd_cons, rnd_app, rnd_nil, (itRest_rnd ih []).1, hne, s_lp, s_rp]
theorem itEs_rnd : ∀ (l : List Ex), exBs l = true → RndL (itEs l) (txEs l)
  | [], _ => trivial
  | e :: r, hb => by
    simp only [exBs, Bool.and_eq_true] at hb
    exact ⟨fun g => itE_rnd e g hb.1, itEs_rnd r hb.2⟩
end
end Go.Tx
namespace Go.Tx
inductive Sy where
  | t (k : Bs) (d : Nat)
  | un (d : Nat)
  | mn (d : Nat)
  | lp (lv d : Nat)
  | cl (d : Nat)
  | a0 (d : Nat)
  | a1 (d : Nat)
  | p0
  | p1
  | ss (d : Nat)
  | el (d : Nat)
  | e2 (d : Nat)
inductive Act where
  | eat (p : List Sy)
  | pop
  | err (e : Int)
def Act.more (a : Act) (q : List Sy) : Act := match a with
  | .eat p => .eat (p ++ q)
  | .pop => .pop
  | .err e => .err e
def lopsN (d : Nat) : Nat → List Sy
  | 0 => []
  | n + 1 => lopsN d n ++ [.lp (7 - n) d]
def exL (lv d : Nat) : List Sy := .un d :: lopsN d (8 - lv)
def kidS (d n : Nat) : Nat → List Sy
  | 0 => [.t s_rp d]
  | m + 1 => (if m + 1 < n then [.t s_comma d] else []) ++ (exL 0 d ++ kidS d n m)
def blk (d : Nat) : List Sy := [.t s_lb d, .ss d]
def deepA (d : Nat) (p : List Sy) : Act := if 40 < d then .err 144 else .eat p
def formS (k : Bs) (d : Nat) : List Sy :=
  if k = k_reduce then .t k_name d :: .t s_comma d :: .t k_name d :: .t s_comma d :: kidS d 3 3
  else if k = k_each then .t k_name d :: .t s_comma d :: kidS d 2 2 else kidS d 2 2
def actU (d : Nat) (k : Bs) : Act :=
  if k = s_minus then deepA (d + 1) [.mn (d + 1)]
  else if k = s_bang then deepA (d + 1) [.un (d + 1)]
  else if k = k_number then .eat []
  else if k = k_name then .eat [.cl d]
  else if k = s_lp then deepA (d + 1) (exL 0 (d + 1) ++ [.t s_rp d])
  else if k = k_min ∨ k = k_max ∨ k = k_reduce ∨ k = k_each then deepA (d + 1) (.t s_lp (d + 1) :: formS k (d + 1))
  else .err 141
def plainS (d : Nat) (k : Bs) : List Sy :=
  if k = k_sync then [] else if k = k_break then [] else if k = k_continue then []
  else if k = k_do then exL 0 d else if k = k_return then exL 0 d
  else if k = k_spawn then [.t k_name d, .t s_asg d, .t k_name d, .t s_lp d, .a0 d]
  else if k = k_let then .t k_name d :: .t s_asg d :: exL 0 d
  else .t s_asg d :: exL 0 d
def choS (d : Nat) : List Sy := exL 0 d ++ (blk (d + 1) ++ [.el d])
def act : Sy → Bs → Act
  | .t k' _, k => if k = k' then .eat [] else .err 141
  | .un d, k => actU d k
  | .mn d, k => if k = k_number then .eat [] else actU d k
  | .lp lv d, k => if standsB lv k = true then .eat (exL (lv + 1) d ++ [.lp lv d]) else .pop
  | .cl d, k => if k = s_lp then deepA (d + 1) [.a0 (d + 1)] else .pop
  | .a0 d, k => if k = s_rp then .eat [] else (actU d k).more (lopsN d 8 ++ [.a1 d])
  | .a1 d, k => if k = s_rp then .eat [] else if k = s_comma then .eat (exL 0 d ++ [.a1 d]) else .err 141
  | .p0, k => if k = s_rp then .eat [] else if k = k_name then .eat [.p1] else .err 141
  | .p1, k => if k = s_rp then .eat [] else if k = s_comma then .eat [.t k_name 0, .p1] else .err 141
  | .ss d, k => if k = s_rb then .eat [] else if beginsB k = true then
      if k = k_if then deepA d (choS d ++ [.ss d]) else if k = k_while then deepA d (exL 0 d ++ (blk (d + 1) ++ [.ss d]))
      else deepA d (plainS d k ++ [.t s_semi d, .ss d])
    else .err 141
  | .el d, k => if k = k_else then .eat [.e2 d] else .pop
  | .e2 d, k => if k = k_if then deepA (d + 1) (choS (d + 1)) else if k = s_lb then .eat [.ss (d + 1)] else .err 141
def fnS : List Sy := [.t k_name 0, .t s_lp 0, .p0, .t s_lb 1, .ss 1]
inductive Go1 where
  | eat (S : List Sy)
  | fin
  | err (e : Int)
def go : List Sy → Bs → Go1
  | [], k => if k = k_end then .fin else if k = k_fn then .eat fnS else .err 141
  | s :: S, k => match act s k with
    | .eat p => .eat (p ++ S)
    | .pop => go S k
    | .err e => .err e
def isMn : List Sy → Bool
  | .mn _ :: _ => true
  | _ => false
def run : List Sy → List Tk → Res Unit
  | S, [] => match go S [] with
    | .fin => .ok () []
    | .err e => .err e 0
    | .eat _ => .out
  | S, t :: r => match go S t.kind with
    | .fin => .ok () (t :: r)
    | .err e => .err e t.at_
    | .eat S' => match r with
      | [] => .out
      | u :: r' => if u.err ≠ 0 then .err u.err u.at_ else if u.kind = k_number ∧ u.n = -9223372036854775808 ∧ isMn S' = false then .err 143 u.at_ else run S' (u :: r')
theorem run_eq (S : List Sy) (ts : List Tk) : run S ts = match go S (curK ts) with
    | .fin => .ok () ts
    | .err e => .err e (curT ts).at_
    | .eat S' => (stepP (isMn S') ts).bind fun _ ts' => run S' ts' := by
  cases ts with
  | nil => rw [run]; rfl
  | cons t r =>
    rw [run]
    show _ = match go S t.kind with | .fin => _ | .err e => _ | .eat S' => _
    cases go S t.kind with
    | fin => rfl
    | err e => rfl
    | eat S' =>
      cases r with
      | nil => rfl
      | cons u r' =>
        simp only [stepP]
        split
        · rfl
        · split <;> rfl
def Sim {α : Type} (R : Res α) (ts : List Tk) (σ : List Sy) : Prop := R ≠ .out → ∀ S, isMn S = false → run (σ ++ S) ts = R.bind fun _ ts' => run S ts'
theorem mn_app {a b : List Sy} (ha : isMn a = false) (hb : isMn b = false) : isMn (a ++ b) = false := by
  cases a with
  | nil => exact hb
  | cons s a => cases s <;> first | rfl | exact ha
theorem Sim.bind {α β : Type} {R : Res α} {k : α → List Tk → Res β} {ts : List Tk} {σ1 σ2 : List Sy} (h1 : Sim R ts σ1) (hm : isMn σ2 = false) (h2 : ∀ a ts', Sim (k a ts') ts' σ2) : Sim (R.bind k) ts (σ1 ++ σ2) := by
  intro ho S hS
  rw [List.append_assoc]
  have h0 : R ≠ .out := fun e => ho (by rw [e]; rfl)
  rw [h1 h0 _ (mn_app hm hS)]
  cases R with
  | out => exact absurd rfl h0
  | err e p => rfl
  | ok a ts' => exact h2 a ts' ho S hS
theorem Sim.ret {α : Type} {a : α} {ts : List Tk} : Sim (.ok a ts) ts [] := fun _ S _ => rfl
theorem Sim.eat {β : Type} {k : List Tk → Res β} {ts : List Tk} {s : Sy} {p σ : List Sy} {m : Bool} (ha : act s (curK ts) = .eat p) (hm : ∀ S, isMn S = false → isMn (p ++ (σ ++ S)) = m) (h : ∀ ts', Sim (k ts') ts' (p ++ σ)) : Sim ((stepP m ts).bind fun _ ts' => k ts') ts (s :: σ) := by
  intro ho S hS
  rw [run_eq]
  have hg : go (s :: σ ++ S) (curK ts) = .eat (p ++ (σ ++ S)) := by
    show (match act s (curK ts) with | .eat p => _ | .pop => _ | .err e => _) = _
    rw [ha]; rfl
  rw [hg]
  simp only
  rw [hm S hS]
  cases hs : stepP m ts with
  | out => rw [hs] at ho; exact absurd rfl ho
  | err e p => rfl
  | ok a ts' =>
    rw [hs] at ho
    show run _ ts' = (k ts').bind _
    have := h ts' ho S hS
    rw [List.append_assoc] at this
    exact this
theorem Sim.er {α : Type} {ts : List Tk} {s : Sy} {σ : List Sy} {e : Int} (ha : act s (curK ts) = .err e) : Sim (.err e (curT ts).at_ : Res α) ts (s :: σ) := by
  intro ho S hS
  rw [run_eq]
  have hg : go (s :: σ ++ S) (curK ts) = .err e := by
    show (match act s (curK ts) with | .eat p => _ | .pop => _ | .err e => _) = _
    rw [ha]
  rw [hg]; rfl
theorem Sim.take {k : Bs} {d : Nat} {ts : List Tk} : Sim (takeP k ts) ts [.t k d] := by
  unfold takeP
  split
  · rename_i h
    exact Sim.er (by simp only [act]; rw [if_neg h])
  · rename_i h
    exact Sim.eat (p := []) (σ := []) (by simp only [act]; rw [if_pos (Classical.not_not.1 h)]) (fun S hS => hS) fun ts' => Sim.ret
section
end
end Go.Tx
namespace Go.Tx
theorem find_congr {α : Type} {f g : α → Bool} : ∀ {L : List α}, (∀ t ∈ L, f t = g t) → L.find? f = L.find? g
  | [], _ => rfl
  | a :: L, h => by
    rw [List.find?_cons, List.find?_cons, h a (by simp), find_congr fun t ht => h t (by simp [ht])]
end Go.Tx
namespace Go.Tx
def KC : List Bs := [s_rb, s_semi, s_rp, k_number, s_lb, s_comma, s_lp, s_asg, k_name, k_fn]
def Sy.w : Sy → Nat
  | .lp _ _ => 0
  | .cl _ => 0
  | .el _ => 0
  | .e2 _ => 2
  | _ => 1
def wt : List Sy → Nat
  | [] => 0
  | s :: S => s.w + wt S
def Sy.ok : Sy → Prop
  | .t k d => k ∈ KC ∧ d ≤ 41
  | .un d => d ≤ 40
  | .mn d => d ≤ 40
  | .lp _ d => d ≤ 40
  | .cl d => d ≤ 40
  | .a0 d => d ≤ 40
  | .a1 d => d ≤ 40
  | .p0 => True
  | .p1 => True
  | .ss d => d ≤ 41
  | .el d => d ≤ 40
  | .e2 d => d ≤ 40
def Sy.bad : Sy → Bool
  | .t k _ => k == s_lp || k == s_asg || k == k_name || k == k_fn
  | _ => false
def nb : List Sy → Prop
  | [] => True
  | s :: _ => s.bad = false
end Go.Tx
namespace Go.Tx
def Fine (u : Tk) : Prop := u.err = 0 ∧ ¬ (u.kind = k_number ∧ u.n = -9223372036854775808)
end Go.Tx
namespace Go.Tx
def Rz {α : Type} (N : Prop) (r r' : Res α) : Prop := r = .out ∨ r = r' ∨ (¬ N ∧ ∃ e p, r = .err e p)
theorem Rz.rfl' {α : Type} {N : Prop} {r : Res α} : Rz N r r := .inr (.inl rfl)
theorem Rz.bind {α β : Type} {N1 N2 N : Prop} {r : Res α} {k : α → List Tk → Res β} {a : α} {ts : List Tk} {r' : Res β} (h : Rz N1 r (.ok a ts)) (hN1 : N → N1) (hk : Rz N2 (k a ts) r') (hN2 : N → N2) : Rz N (r.bind k) r' := by
  rcases h with h | h | ⟨h, e, p, he⟩
  · rw [h]; exact .inl rfl
  · rw [h]
    rcases hk with hk | hk | ⟨hk, e, p, he⟩
    · exact .inl hk
    · exact .inr (.inl hk)
    · exact .inr (.inr ⟨fun n => hk (hN2 n), e, p, he⟩)
  · rw [he]; exact .inr (.inr ⟨fun n => h (hN1 n), e, p, rfl⟩)
theorem Rz.mono {α : Type} {N N' : Prop} {r r' : Res α} (h : Rz N r r') (hN : N' → N) : Rz N' r r' := by
  rcases h with h | h | ⟨h, e, p, he⟩
  · exact .inl h
  · exact .inr (.inl h)
  · exact .inr (.inr ⟨fun n => h (hN n), e, p, he⟩)
theorem Rz.deep {β : Type} {N N2 : Prop} {d : Nat} {ts : List Tk} {k : List Tk → Res β} {r' : Res β} (hN : N → d ≤ 40) (hk : Rz N2 (k ts) r') (hN2 : N → N2) : Rz N ((deepP d ts).bind fun _ ts => k ts) r' := by
  unfold deepP
  split
  · exact .inr (.inr ⟨fun n => by have := hN n; omega, 144, _, rfl⟩)
  · exact hk.mono hN2
def tkP (x : Bs) (p : Nat) : Tk := match x with
  | [] => ⟨[], [], p, 0, 0⟩
  | c :: r => if letter c = true then named (c :: r) p else if digit c = true then number (c :: r) p else ⟨c :: r, c :: r, p, 0, 0⟩
def MT : List It → List Tk → List Tk → Prop
  | [], ts, rest => ts = rest
  | x :: l, ts, rest => ∃ p ts', ts = tkP x.2 p :: ts' ∧ MT l ts' rest
theorem MT.app : ∀ {a b : List It} {ts rest : List Tk}, MT (a ++ b) ts rest → ∃ mid, MT a ts mid ∧ MT b mid rest
  | [], b, ts, rest, h => ⟨ts, rfl, h⟩
  | x :: a, b, ts, rest, h => by
    obtain ⟨p, ts', h1, h2⟩ := h
    obtain ⟨mid, h3, h4⟩ := MT.app h2
    exact ⟨mid, ⟨p, ts', h1, h3⟩, h4⟩
theorem MT.len : ∀ {a : List It} {ts rest : List Tk}, MT a ts rest → ts.length = a.length + rest.length
  | [], ts, rest, h => by rw [show ts = rest from h]; simp
  | x :: a, ts, rest, h => by
    obtain ⟨p, ts', h1, h2⟩ := h
    rw [h1, List.length_cons, MT.len h2, List.length_cons]; omega
theorem name_tk {s : Bs} (h : isNameB s = true) (p : Nat) : tkP s p = ⟨k_name, s, p, 0, 0⟩ := by
  unfold isNameB at h
  simp only [Bool.and_eq_true, Bool.not_eq_true', Bool.or_eq_false_iff, decide_eq_false_iff_not, List.all_eq_true, List.mem_range] at h
  obtain ⟨⟨⟨h1, h2⟩, h3⟩, h4⟩ := h
  match s, h1 with
  | c :: r, _ =>
    have hc : letter c = true := by
      have := h4 0 (by simp)
      simpa [nmB] using this
    simp only [tkP]
    rw [if_pos hc]
    unfold named
    rw [h3, if_neg (by simp), if_neg h2]
theorem dec_tk {m : Nat} (h : m ≤ 9223372036854775808) (p : Nat) : tkP (Go.Lib.decDigits m) p = numT m p := by
  have hd := dec_dig m
  have hn := dec_ne m
  rw [← number_dec h]
  cases hx : Go.Lib.decDigits m with
  | nil => exact absurd hx hn
  | cons c r =>
    have hc : digit c = true := hd c (by rw [hx]; simp)
    simp only [tkP]
    rw [if_neg (by rw [(dig_not hc).1]; simp), if_pos hc]
theorem sgn_tk {s : Bs} {i : Nat} (h : standsB i s = true) (p : Nat) : tkP s p = ⟨s, s, p, 0, 0⟩ := by
  obtain ⟨_, l, h2, h3⟩ := stands_lt h
  have key : (levels.all fun l => l.all fun s => match s with | [] => false | c :: _ => !letter c && !digit c) = true := by decide
  have := List.all_eq_true.1 (List.all_eq_true.1 key l (List.mem_of_getElem? h2)) s h3
  match s, this with
  | c :: r, this =>
    simp only [Bool.and_eq_true, Bool.not_eq_true'] at this
    simp only [tkP, this]
    rfl
theorem stands_one {s : Bs} {i j : Nat} (h : standsB i s = true) (hj : j ≠ i) : standsB j s = false := by
  obtain ⟨h1, l, h2, h3⟩ := stands_lt h
  cases hs : standsB j s with
  | false => rfl
  | true =>
    obtain ⟨g1, l', g2, g3⟩ := stands_lt hs
    have key : ((List.range 8).all fun i => (List.range 8).all fun j => decide (i = j) || ((levels[i]?.getD []).all fun s => !((levels[j]?.getD []).contains s))) = true := by decide
    have := List.all_eq_true.1 (List.all_eq_true.1 key i (List.mem_range.2 h1)) j (List.mem_range.2 g1)
    simp only [Bool.or_eq_true, decide_eq_true_eq] at this
    rcases this with this | this
    · exact absurd this.symm hj
    · have := List.all_eq_true.1 this s (by rw [h2]; exact h3)
      rw [g2] at this
      simp only [Option.getD_some, Bool.not_eq_true'] at this
      rw [List.contains_iff_mem.2 g3] at this
      cases this
theorem sg_stands {kd o : Int} {s : Bs} {lv : Nat} (h : sgK kd o = (s, lv)) (hs : s ≠ []) : standsB lv s = true ∧ s = sgS kd o := by
  have key : ∀ (t : Bs) (l : List (List Bs)) (i : Nat), lvAux t l i = (s, lv) → ∃ k, lv = i + k ∧ ∃ x, l[k]? = some x ∧ x.contains s = true ∧ s = t := by
    intro t l
    induction l with
    | nil => intro i h; simp only [lvAux, Prod.mk.injEq] at h; exact absurd h.1.symm hs
    | cons x r ih =>
      intro i h
      unfold lvAux at h
      split at h
      · rename_i hc
        simp only [Prod.mk.injEq] at h
        obtain ⟨rfl, rfl⟩ := h
        exact ⟨0, rfl, x, rfl, hc, rfl⟩
      · obtain ⟨k, hk, y, hy, hc, ht⟩ := ih (i + 1) h
        exact ⟨k + 1, by omega, y, hy, hc, ht⟩
  obtain ⟨k, hk, x, hx, hc, ht⟩ := key (sgS kd o) levels 0 h
  have hk : lv = k := by omega
  subst hk
  refine ⟨?_, ht⟩
  unfold standsB
  rw [hx]
  exact hc
def Hd (ts : List Tk) : Prop := ∃ u r, ts = u :: r ∧ Fine u
def NX (ts : List Tk) : Prop := ∃ u r, ts = u :: r ∧ Fine u ∧ u.kind ≠ s_lp
def NS (lv : Nat) (ts : List Tk) : Prop := ∀ j, lv ≤ j → standsB j (curK ts) = false
theorem NX.hd {ts : List Tk} (h : NX ts) : Hd ts := by obtain ⟨u, r, h1, h2, _⟩ := h; exact ⟨u, r, h1, h2⟩
theorem step_hd {t : Tk} {ts : List Tk} (m : Bool) (h : Hd ts) : stepP m (t :: ts) = .ok () ts := by
  obtain ⟨u, r, rfl, h1, h2⟩ := h
  exact step_ok h1 fun e => h2 ⟨e.1, e.2.1⟩
theorem take_hd {k : Bs} {t : Tk} {ts : List Tk} (hk : t.kind = k) (h : Hd ts) : takeP k (t :: ts) = .ok t ts := by
  unfold takeP
  rw [if_neg (fun e => e hk), step_hd false h]
  rfl
theorem plain_fine {k t : Bs} {p : Nat} (h : k ≠ k_number) : Fine ⟨k, t, p, 0, 0⟩ := ⟨rfl, fun e => h e.1⟩
theorem up8 {N : Prop} {d : Nat} {ts rest : List Tk} {e : Ex} (h : ∀ n, Rz N ((pf n).unary d ts) (.ok e rest)) : ∀ m lv n, lv + m = 8 → NS lv rest → Rz N ((pf n).expr lv d ts) (.ok e rest)
  | 0, lv, 0, _, _ => .inl rfl
  | m + 1, lv, 0, _, _ => .inl rfl
  | 0, lv, n + 1, hm, _ => by
    have : lv = 8 := by omega
    subst this
    show Rz N (exprP (pf n) 8 d ts) _
    unfold exprP
    rw [if_pos rfl]
    exact h n
  | m + 1, lv, n + 1, hm, hs => by
    show Rz N (exprP (pf n) lv d ts) _
    unfold exprP
    rw [if_neg (by omega)]
    refine Rz.bind (up8 h m (lv + 1) n (by omega) fun j hj => hs j (by omega)) id (N2 := True) ?_ (fun _ => trivial)
    show Rz True (loopE (pf n) lv d (rest.length + 1) e rest) _
    unfold loopE
    rw [hs lv (Nat.le_refl _), if_neg (by simp)]
    exact Rz.rfl'
def UC (e : Ex) : Prop := ∀ n d g ts rest, NX rest → MT (itE e g) ts rest → Rz (nstE e d) ((pf n).unary d ts) (.ok e rest)
def XC (e : Ex) : Prop := ∀ n d lv g ts rest, lv ≤ (sgE e).2 → lv ≤ 8 → NX rest → NS lv rest → MT (itE e g) ts rest → Rz (nstE e d) ((pf n).expr lv d ts) (.ok e rest)
def LC (e : Ex) : Prop := ∀ n d s g ts rest, s ≤ (sgE e).2 → s < 8 → NX rest → NS (s + 1) rest → MT (itE e g) ts rest → ∃ k, rest.length < k ∧ Rz (nstE e d) (exprP (pf n) s d ts) (loopE (pf n) s d k e rest)
def LE (e : Ex) : Prop := ∀ n d g ts rest, (sgE e).2 < 8 → NX rest → NS ((sgE e).2 + 1) rest → MT (itE e g) ts rest → ∃ k, rest.length < k ∧ Rz (nstE e d) (exprP (pf n) (sgE e).2 d ts) (loopE (pf n) (sgE e).2 d k e rest)
theorem XC.of {e : Ex} (hu : (sgE e).2 = 8 → UC e) (h8 : (sgE e).2 ≤ 8) (hl : LE e) : XC e := by
  intro n d lv g ts rest h1 h2 hx hs hm
  by_cases hk : (sgE e).2 = 8
  · exact up8 (fun n => hu hk n d g ts rest hx hm) (8 - lv) lv n (by omega) hs
  · have key : ∀ m lv n, lv + m = (sgE e).2 → NS lv rest → Rz (nstE e d) ((pf n).expr lv d ts) (.ok e rest) := by
      intro m
      induction m with
      | zero =>
        intro lv n hm' hs
        cases n with
        | zero => exact .inl rfl
        | succ n =>
          have hlv : lv = (sgE e).2 := by omega
          subst hlv
          obtain ⟨k, hk2, hr⟩ := hl n d g ts rest (by omega) hx (fun j hj => hs j (by omega)) hm
          show Rz (nstE e d) (exprP (pf n) (sgE e).2 d ts) _
          have hlo : loopE (pf n) (sgE e).2 d k e rest = .ok e rest := by
            obtain ⟨k, rfl⟩ : ∃ k', k = k' + 1 := ⟨k - 1, by omega⟩
            unfold loopE
            rw [hs _ (Nat.le_refl _), if_neg (by simp)]
          rw [hlo] at hr
          exact hr
      | succ m ih =>
        intro lv n hm' hs
        cases n with
        | zero => exact .inl rfl
        | succ n =>
          show Rz (nstE e d) (exprP (pf n) lv d ts) _
          unfold exprP
          rw [if_neg (by omega)]
          refine Rz.bind (ih (lv + 1) n (by omega) fun j hj => hs j (by omega)) id (N2 := True) ?_ (fun _ => trivial)
          show Rz True (loopE (pf n) lv d (rest.length + 1) e rest) _
          unfold loopE
          rw [hs lv (Nat.le_refl _), if_neg (by simp)]
          exact Rz.rfl'
    exact key ((sgE e).2 - lv) lv n (by omega) hs
theorem LC.of {e : Ex} (hx : XC e) (hl : LE e) (h8 : (sgE e).2 ≤ 8) : LC e := by
  intro n d s g ts rest h1 h2 hn hs hm
  by_cases he : s = (sgE e).2
  · subst he
    exact hl n d g ts rest h2 hn hs hm
  · refine ⟨rest.length + 1, by omega, ?_⟩
    unfold exprP
    rw [if_neg (by omega)]
    refine Rz.bind (hx n d (s + 1) g ts rest (by omega) (by omega) hn hs hm) id (N2 := True) ?_ (fun _ => trivial)
    exact Rz.rfl'
end Go.Tx
namespace Go.Tx
theorem sg_le (e : Ex) : (sgE e).2 ≤ 8 := by
  by_cases h : (sgE e).1 ≠ []
  · exact Nat.le_of_lt (sg_lv h)
  · obtain ⟨kd, o, n, nm, cb, ks⟩ := e
    rcases sg_nil8 (sgS kd o) with h1 | h1
    · exact absurd h1 h
    · show (sgn2 (sgS kd o)).2 ≤ 8
      rw [h1]; decide
theorem sg8 {e : Ex} (h : ¬ (sgE e).1 ≠ []) : sgE e = ([], 8) := by
  obtain ⟨kd, o, n, nm, cb, ks⟩ := e
  rcases sg_nil8 (sgS kd o) with h1 | h1
  · exact absurd h1 h
  · exact h1
theorem minmax {o : Int} (h1 : opNm o ≠ []) (h2 : ¬ (sgK 4 o).1 ≠ []) : (opNm o = k_min ∨ opNm o = k_max) ∧ findOp (opNm o) = o := by
  unfold opNm at h1
  split at h1
  · rename_i h
    obtain ⟨k, rfl⟩ : ∃ k : Nat, o = (k : Int) := ⟨o.toNat, by omega⟩
    have hk : k < 16 := by omega
    have key : ((List.range 16).all fun k => decide ((sgK 4 (k : Int)).1 ≠ []) || ((decide (opNm (k : Int) = k_min) || decide (opNm (k : Int) = k_max)) && decide (findOp (opNm (k : Int)) = (k : Int)))) = true := by decide
    have := List.all_eq_true.1 key k (List.mem_range.2 hk)
    simp only [Bool.or_eq_true, Bool.and_eq_true, decide_eq_true_eq] at this
    rcases this with this | this
    · exact absurd this h2
    · exact this
  · exact absurd rfl h1
theorem find_sgn {o : Int} {s : Bs} {lv : Nat} (h : sgK 4 o = (s, lv)) (hs : s ≠ []) : s = opNm o ∧ findOp s = o ∧ s ≠ s_andd ∧ s ≠ s_orr := by
  have hst := (sg_stands h hs).2
  have h4 : sgS 4 o = opNm o := rfl
  rw [h4] at hst
  subst hst
  unfold opNm at hs
  split at hs
  · rename_i h
    obtain ⟨k, rfl⟩ : ∃ k : Nat, o = (k : Int) := ⟨o.toNat, by omega⟩
    have hk : k < 16 := by omega
    have key : ((List.range 16).all fun k => decide (findOp (opNm (k : Int)) = (k : Int)) && decide (opNm (k : Int) ≠ s_andd) && decide (opNm (k : Int) ≠ s_orr)) = true := by decide
    have := List.all_eq_true.1 key k (List.mem_range.2 hk)
    simp only [Bool.and_eq_true, decide_eq_true_eq] at this
    exact ⟨rfl, this.1.1, this.1.2, this.2⟩
  · exact absurd rfl hs
theorem join_sg {kd o : Int} {s : Bs} {lv : Nat} {nm cb : Bs} (x y : Ex) (h : sgK kd o = (s, lv)) (hs : s ≠ []) {n : Int} (hh : hdB kd o n nm cb 2 = true) : joinP s x y = .mk kd o n nm cb [x, y] := by
  have hk : kd = 8 ∨ kd = 9 ∨ kd = 4 := by
    by_cases h8 : kd = 8
    · exact .inl h8
    · by_cases h9 : kd = 9
      · exact .inr (.inl h9)
      · by_cases h4 : kd = 4
        · exact .inr (.inr h4)
        · have := (sg_stands h hs).2
          unfold sgS at this
          rw [if_neg h8, if_neg h9, if_neg h4] at this
          exact absurd this hs
  rcases hk with rfl | rfl | rfl
  · have := (sg_stands h hs).2
    have this : s = s_andd := this
    subst this
    simp [hdB] at hh
    obtain ⟨⟨⟨rfl, rfl⟩, rfl⟩, rfl⟩ := hh
    rfl
  · have := (sg_stands h hs).2
    have this : s = s_orr := this
    subst this
    simp [hdB] at hh
    obtain ⟨⟨⟨rfl, rfl⟩, rfl⟩, rfl⟩ := hh
    rfl
  · obtain ⟨h1, h2, h3, h4⟩ := find_sgn h hs
    simp [hdB] at hh
    obtain ⟨⟨⟨_, rfl⟩, rfl⟩, rfl⟩ := hh
    unfold joinP
    rw [if_neg h3, if_neg h4, h2]
theorem itE_hd : ∀ (e : Ex) (g : Bs) (ts rest : List Tk), exB e = true → rgE e → MT (itE e g) ts rest → Hd ts ∧ (posB e = false → (sgE e).1 = [] → curK ts ≠ k_number)
  | .mk kd o n nm cb ks, g, ts, rest, hb, hr, hm => by
    simp only [exB, Bool.and_eq_true] at hb
    have hh := hb.2
    have one : ∀ (x : Bs) (l : List It), MT ((g, x) :: l) ts rest → (∀ p, Fine (tkP x p)) → Hd ts := fun x l h hf => by
      obtain ⟨p, ts', h1, h2⟩ := h
      exact ⟨_, _, h1, hf p⟩
    have onek : ∀ (x : Bs) (l : List It), MT ((g, x) :: l) ts rest → ∃ p ts', ts = tkP x p :: ts' := fun x l h => by
      obtain ⟨p, ts', h1, h2⟩ := h
      exact ⟨p, ts', h1⟩
    simp only [itE] at hm
    unfold itN at hm
    split at hm
    · rename_i hne
      have h2 := kids_two hh hne
      refine ⟨?_, fun _ h => absurd h hne⟩
      match ks, h2, hb.1, hr.2, hm with
      | [a, b], _, hbs, hrs, hm =>
        simp only [exBs, Bool.and_eq_true] at hbs
        obtain ⟨mid, h3, _⟩ := hm.app
        unfold itPar at h3
        split at h3
        · obtain ⟨p, ts', h1, h2⟩ := h3
          exact ⟨_, _, h1, plain_fine (by decide)⟩
        · exact (itE_hd a g ts mid hbs.1 hrs.1 h3).1
    · split at hm
      · rename_i h0
        have hnm : nm = [] ∧ o = 0 := by simp [hdB, h0] at hh; exact ⟨hh.1.2, hh.1.1.2⟩
        split at hm
        · rename_i hneg
          obtain ⟨p, ts', h1, _⟩ := hm
          refine ⟨⟨_, _, h1, plain_fine (by decide)⟩, fun _ _ => ?_⟩
          rw [h1]
          show s_minus ≠ k_number
          decide
        · rename_i hpos
          have hle : n.natAbs ≤ 9223372036854775807 := by have := hr.1.2; omega
          refine ⟨one _ _ hm fun p => ?_, fun hp _ => ?_⟩
          · rw [dec_tk (by omega)]
            exact ⟨rfl, fun h => by have : -(n.natAbs : Int) = -9223372036854775808 := h.2; omega⟩
          · simp [posB, h0] at hp
            omega
      · split at hm
        · rename_i h0 h1
          have hn := (show isNameB nm = true by simp [hdB, h1] at hh; exact hh.2)
          refine ⟨one _ _ hm fun p => by rw [name_tk hn]; exact plain_fine (by decide), fun _ _ => ?_⟩
          obtain ⟨p, ts', h⟩ := onek _ _ hm
          rw [h, name_tk hn]
          show k_name ≠ k_number
          decide
        · split at hm
          · refine ⟨one _ _ hm fun p => plain_fine (by decide), fun _ _ => ?_⟩
            obtain ⟨p, ts', h⟩ := onek _ _ hm
            rw [h]; show s_minus ≠ k_number; decide
          · split at hm
            · refine ⟨one _ _ hm fun p => plain_fine (by decide), fun _ _ => ?_⟩
              obtain ⟨p, ts', h⟩ := onek _ _ hm
              rw [h]; show s_bang ≠ k_number; decide
            · split at hm
              · rename_i hsg _ _ _ _ h4
                subst h4
                have hop : opNm o ≠ [] := by simp [hdB] at hh; exact hh.1.1.1.2
                have hmm := (minmax hop hsg).1
                have hk : ∀ p, tkP (opNm o) p = ⟨opNm o, opNm o, p, 0, 0⟩ := fun p => by rcases hmm with h | h <;> rw [h] <;> rfl
                have hnk : opNm o ≠ k_number := by rcases hmm with h | h <;> rw [h] <;> decide
                refine ⟨one _ _ hm fun p => by rw [hk]; exact plain_fine hnk, fun _ _ => ?_⟩
                obtain ⟨p, ts', h⟩ := onek _ _ hm
                rw [h, hk]; exact hnk
              · split at hm
                · rename_i h5
                  have hn := (show isNameB nm = true by simp [hdB, h5] at hh; exact hh.2)
                  refine ⟨one _ _ hm fun p => by rw [name_tk hn]; exact plain_fine (by decide), fun _ _ => ?_⟩
                  obtain ⟨p, ts', h⟩ := onek _ _ hm
                  rw [h, name_tk hn]; show k_name ≠ k_number; decide
                · split at hm
                  · refine ⟨one _ _ hm fun p => plain_fine (by decide), fun _ _ => ?_⟩
                    obtain ⟨p, ts', h⟩ := onek _ _ hm
                    rw [h]; show k_reduce ≠ k_number; decide
                  · refine ⟨one _ _ hm fun p => plain_fine (by decide), fun _ _ => ?_⟩
                    obtain ⟨p, ts', h⟩ := onek _ _ hm
                    rw [h]; show k_each ≠ k_number; decide
theorem pf_un (n d : Nat) (ts : List Tk) : (pf (n + 1)).unary d ts = unaryP (pf n) d ts := rfl
theorem pf_pr (n d : Nat) (ts : List Tk) : (pf (n + 1)).primary d ts = primaryP (pf n) d ts := rfl
theorem un_pr {n d : Nat} {t : Tk} {ts : List Tk} (h1 : t.kind ≠ s_minus) (h2 : t.kind ≠ s_bang) : (pf (n + 1)).unary d (t :: ts) = (pf n).primary d (t :: ts) := by
  rw [pf_un]
  unfold unaryP
  rw [if_pos ⟨h1, h2⟩]
theorem no_rp' {p : Nat} {r : List Tk} : NS 0 (⟨s_rp, s_rp, p, 0, 0⟩ :: r) := fun j _ => no_rp j
theorem par_uc {e : Ex} {N : Prop} {d : Nat} {g : Bs} {ts rest : List Tk} (hx : XC e) (hb : exB e = true) (hr : rgE e) (hn : Hd rest) (hN : N → d + 1 ≤ 40 ∧ nstE e (d + 1)) (hm : MT (itPar true (itE e) g) ts rest) (n : Nat) : Rz N ((pf n).unary d ts) (.ok e rest) := by
  obtain ⟨p, ts1, rfl, hm⟩ := hm
  obtain ⟨mid, h1, h2⟩ := hm.app
  obtain ⟨q, ts2, rfl, h3⟩ := h2
  have h3 : ts2 = rest := h3
  subst h3
  have ht : tkP (g, s_lp).2 p = ⟨s_lp, s_lp, p, 0, 0⟩ := rfl
  rw [ht]
  match n with
  | 0 => exact .inl rfl
  | 1 => rw [un_pr (show s_lp ≠ s_minus by decide) (show s_lp ≠ s_bang by decide)]; exact .inl rfl
  | n + 2 =>
    rw [un_pr (show s_lp ≠ s_minus by decide) (show s_lp ≠ s_bang by decide), pf_pr]
    unfold primaryP
    simp only [curK, curT]
    rw [if_neg (show ¬ s_lp = k_number by decide), if_neg (show ¬ s_lp = k_name by decide), if_pos trivial]
    refine Rz.deep (fun h => (hN h).1) (N2 := nstE e (d + 1)) ?_ (fun h => (hN h).2)
    have hh := (itE_hd e [] _ _ hb hr h1).1
    rw [step_hd false hh, bind_ok]
    refine Rz.bind (hx n (d + 1) 0 [] _ _ (Nat.zero_le _) (by omega) ⟨_, _, rfl, plain_fine (by decide), show s_rp ≠ s_lp by decide⟩ no_rp' h1) id (N2 := True) ?_ (fun _ => trivial)
    have hk : takeP s_rp (⟨s_rp, s_rp, q, 0, 0⟩ :: ts2) = .ok ⟨s_rp, s_rp, q, 0, 0⟩ ts2 := take_hd rfl hn
    show Rz True ((takeP s_rp (⟨s_rp, s_rp, q, 0, 0⟩ :: ts2)).bind fun _ ts3 => .ok e ts3) _
    rw [hk, bind_ok]
    exact Rz.rfl'
theorem par_xc {e : Ex} {b : Bool} {d lv n : Nat} {g : Bs} {ts rest : List Tk} (hx : XC e) (hb : exB e = true) (hr : rgE e) (hn : NX rest) (hs : NS lv rest) (h8 : lv ≤ 8) (hlv : b = false → lv ≤ (sgE e).2) (hm : MT (itPar b (itE e) g) ts rest) : Rz (parN b d (nstE e)) ((pf n).expr lv d ts) (.ok e rest) := by
  cases b with
  | true =>
    refine up8 (fun n => par_uc hx hb hr hn.hd ?_ hm n) (8 - lv) lv n (by omega) hs
    unfold parN
    rw [if_pos rfl]; exact id
  | false =>
    refine (hx n d lv g ts rest (hlv rfl) h8 hn hs ?_).mono ?_
    · unfold itPar at hm; rw [if_neg (by simp)] at hm; exact hm
    · unfold parN; rw [if_neg (by simp)]; exact id
end Go.Tx
namespace Go.Tx
theorem exB_of : ∀ {ks : List Ex} {x : Ex}, exBs ks = true → x ∈ ks → exB x = true
  | e :: r, x, h, hx => by
    simp only [exBs, Bool.and_eq_true] at h
    rcases List.mem_cons.1 hx with rfl | hx
    · exact h.1
    · exact exB_of h.2 hx
theorem rgE_of : ∀ {ks : List Ex} {x : Ex}, rgEs ks → x ∈ ks → rgE x
  | e :: r, x, h, hx => by
    rcases List.mem_cons.1 hx with rfl | hx
    · exact h.1
    · exact rgE_of h.2 hx
theorem nE_of : ∀ {ks : List Ex} {x : Ex}, x ∈ ks → nE x ≤ nEs ks
  | e :: r, x, hx => by
    simp only [nEs]
    rcases List.mem_cons.1 hx with rfl | hx
    · omega
    · have := nE_of hx; omega
theorem itRest_len : ∀ fs : List (Bs → List It), fs.length ≤ (itRest fs).length
  | [] => Nat.le_refl _
  | f :: r => by
    have := itRest_len r
    simp only [itRest, List.length_cons, List.length_append]; omega
theorem itEs_len : ∀ l : List Ex, (itEs l).length = l.length
  | [] => rfl
  | e :: r => by simp [itEs, itEs_len r]
theorem args_len (ks : List Ex) : ks.length ≤ (itArgs (itEs ks)).length + 1 := by
  cases ks with
  | nil => simp
  | cons e r =>
    simp only [itEs, itArgs, List.length_cons, List.length_append]
    have := itRest_len (itEs r)
    rw [itEs_len] at this
    omega
def Fw (w : Bs) : Prop := w = s_lp ∨ w = s_minus ∨ w = s_bang ∨ isNameB w = true ∨ (∃ m, w = Go.Lib.decDigits m ∧ m ≤ 9223372036854775808) ∨ w = k_min ∨ w = k_max ∨ w = k_reduce ∨ w = k_each
theorem itE_fst : ∀ (e : Ex) (g : Bs), exB e = true → rgE e → ∃ w tl, itE e g = (g, w) :: tl ∧ Fw w
  | .mk kd o n nm cb ks, g, hb, hr => by
    simp only [exB, Bool.and_eq_true] at hb
    have hh := hb.2
    simp only [itE]
    unfold itN
    split
    · rename_i hne
      have h2 := kids_two hh hne
      match ks, h2, hb.1, hr.2 with
      | [a, b], _, hbs, hrs =>
        simp only [exBs, Bool.and_eq_true] at hbs
        unfold itPar
        split
        · exact ⟨_, _, rfl, .inl rfl⟩
        · obtain ⟨w, tl, h1, h2⟩ := itE_fst a g hbs.1 hrs.1
          exact ⟨w, _, by show itE a g ++ _ = _; rw [h1]; rfl, h2⟩
    · split
      · split
        · exact ⟨_, _, rfl, .inr (.inl rfl)⟩
        · exact ⟨_, _, rfl, .inr (.inr (.inr (.inr (.inl ⟨_, rfl, by have := hr.1; omega⟩))))⟩
      · split
        · rename_i h1
          exact ⟨_, _, rfl, .inr (.inr (.inr (.inl (by simp [hdB, h1] at hh; exact hh.2))))⟩
        · split
          · exact ⟨_, _, rfl, .inr (.inl rfl)⟩
          · split
            · exact ⟨_, _, rfl, .inr (.inr (.inl rfl))⟩
            · split
              · rename_i hsg _ _ _ _ h4
                subst h4
                have hop : opNm o ≠ [] := by simp [hdB] at hh; exact hh.1.1.1.2
                rcases (minmax hop hsg).1 with h | h
                · exact ⟨_, _, rfl, by rw [h]; exact .inr (.inr (.inr (.inr (.inr (.inl rfl)))))⟩
                · exact ⟨_, _, rfl, by rw [h]; exact .inr (.inr (.inr (.inr (.inr (.inr (.inl rfl))))))⟩
              · split
                · rename_i h5
                  exact ⟨_, _, rfl, .inr (.inr (.inr (.inl (by simp [hdB, h5] at hh; exact hh.2))))⟩
                · split
                  · exact ⟨_, _, rfl, .inr (.inr (.inr (.inr (.inr (.inr (.inr (.inl rfl)))))))⟩
                  · exact ⟨_, _, rfl, .inr (.inr (.inr (.inr (.inr (.inr (.inr (.inr rfl)))))))⟩
theorem Fw.ne {w : Bs} (h : Fw w) (p : Nat) : (tkP w p).kind ≠ s_rp := by
  rcases h with h | h | h | h | ⟨m, h, hm⟩ | h | h | h | h
  · subst h; show s_lp ≠ s_rp; decide
  · subst h; show s_minus ≠ s_rp; decide
  · subst h; show s_bang ≠ s_rp; decide
  · rw [name_tk h]; show k_name ≠ s_rp; decide
  · rw [h, dec_tk hm]; show k_number ≠ s_rp; decide
  · subst h; show k_min ≠ s_rp; decide
  · subst h; show k_max ≠ s_rp; decide
  · subst h; show k_reduce ≠ s_rp; decide
  · subst h; show k_each ≠ s_rp; decide
theorem itE_rp (e : Ex) (g : Bs) (ts rest : List Tk) (hb : exB e = true) (hr : rgE e) (hm : MT (itE e g) ts rest) : curK ts ≠ s_rp := by
  obtain ⟨w, tl, h1, h2⟩ := itE_fst e g hb hr
  rw [h1] at hm
  obtain ⟨p, ts1, rfl, _⟩ := hm
  exact h2.ne p
theorem no_comma : NoSign s_comma := fun lv => by
  match lv with
  | 0 | 1 | 2 | 3 | 4 | 5 | 6 | 7 => rfl
  | n + 8 => rfl
theorem Rz.trans {α : Type} {N N1 N2 : Prop} {a b c : Res α} (h1 : Rz N1 a b) (hN1 : N → N1) (h2 : Rz N2 b c) (hN2 : N → N2) : Rz N a c := by
  rcases h1 with h1 | h1 | ⟨hn, e, p, h1⟩
  · exact .inl h1
  · rw [h1]; exact h2.mono hN2
  · exact .inr (.inr ⟨fun n => hn (hN1 n), e, p, h1⟩)
def Kd (ks : List Ex) : Prop := ∀ x ∈ ks, XC x ∧ exB x = true ∧ rgE x
theorem Kd.hd {e : Ex} {r : List Ex} (h : Kd (e :: r)) : XC e ∧ exB e = true ∧ rgE e := h e (by simp)
theorem Kd.tl {e : Ex} {r : List Ex} (h : Kd (e :: r)) : Kd r := fun x hx => h x (by simp [hx])
theorem sep_nx {fs : List (Bs → List It)} {ts rest : List Tk} (hm : MT (itRest fs ++ [([], s_rp)]) ts rest) : NX ts ∧ NS 0 ts := by
  cases fs with
  | nil =>
    obtain ⟨p, ts', rfl, h⟩ := hm
    exact ⟨⟨_, _, rfl, plain_fine (by decide), show s_rp ≠ s_lp by decide⟩, fun j _ => no_rp j⟩
  | cons f r =>
    obtain ⟨p, ts', rfl, h⟩ := hm
    exact ⟨⟨_, _, rfl, plain_fine (by decide), show s_comma ≠ s_lp by decide⟩, fun j _ => no_comma j⟩
theorem cut_rest {f : Bs → List It} {r : List (Bs → List It)} {ts rest : List Tk} (hm : MT (itRest (f :: r) ++ [([], s_rp)]) ts rest) : ∃ p ts1 mid, ts = ⟨s_comma, s_comma, p, 0, 0⟩ :: ts1 ∧ MT (f [32]) ts1 mid ∧ MT (itRest r ++ [([], s_rp)]) mid rest := by
  obtain ⟨p, ts1, h1, h2⟩ := hm
  have h2 : MT ((f [32] ++ itRest r) ++ [([], s_rp)]) ts1 rest := h2
  rw [List.append_assoc] at h2
  obtain ⟨mid, h3, h4⟩ := h2.app
  exact ⟨p, ts1, mid, h1, h3, h4⟩
theorem cut_end {ts rest : List Tk} (hm : MT (itRest [] ++ [([], s_rp)]) ts rest) : ∃ p, ts = ⟨s_rp, s_rp, p, 0, 0⟩ :: rest := by
  obtain ⟨p, ts1, h1, h2⟩ := hm
  have h2 : ts1 = rest := h2
  exact ⟨p, by rw [h1, h2]; rfl⟩
theorem take_rp {p : Nat} {ts : List Tk} (h : Hd ts) : takeP s_rp (⟨s_rp, s_rp, p, 0, 0⟩ :: ts) = .ok ⟨s_rp, s_rp, p, 0, 0⟩ ts := take_hd rfl h
theorem ck {t : Tk} {ts : List Tk} : curK (t :: ts) = t.kind := rfl
theorem ct {t : Tk} {ts : List Tk} : curT (t :: ts) = t := rfl
theorem take_kt {k x : Bs} {p : Nat} {ts : List Tk} (h : Hd ts) : takeP k (⟨k, x, p, 0, 0⟩ :: ts) = .ok ⟨k, x, p, 0, 0⟩ ts := take_hd rfl h
theorem take_k {k : Bs} {p : Nat} {ts : List Tk} (h : Hd ts) : takeP k (⟨k, k, p, 0, 0⟩ :: ts) = .ok ⟨k, k, p, 0, 0⟩ ts := take_hd rfl h
theorem args_rest {n d : Nat} : ∀ (ks : List Ex), Kd ks → ∀ k l ts rest, l.length ≠ 0 → ks.length < k → Hd rest → MT (itRest (itEs ks) ++ [([], s_rp)]) ts rest → Rz (∀ r ∈ nstEs ks, r d) (argsP (pf n) d k l ts) (.ok (l ++ ks) rest)
  | [], _, k, l, ts, rest, hl, hk, hr, hm => by
    obtain ⟨p, rfl⟩ := cut_end hm
    obtain ⟨k, rfl⟩ : ∃ k', k = k' + 1 := ⟨k - 1, by simp at hk; omega⟩
    unfold argsP
    rw [if_pos (show curK (⟨s_rp, s_rp, p, 0, 0⟩ :: rest) = s_rp from rfl), take_rp hr, bind_ok, List.append_nil]
    exact Rz.rfl'
  | e :: r, hK, k, l, ts, rest, hl, hk, hr, hm => by
    obtain ⟨p, ts1, mid, rfl, h1, h2⟩ := cut_rest hm
    obtain ⟨k, rfl⟩ : ∃ k', k = k' + 1 := ⟨k - 1, by simp at hk; omega⟩
    have hx := hK.hd
    have hh := (itE_hd e _ _ _ hx.2.1 hx.2.2 h1).1
    unfold argsP
    rw [if_neg (show ¬ curK (⟨s_comma, s_comma, p, 0, 0⟩ :: ts1) = s_rp by show ¬ s_comma = s_rp; decide), if_pos hl, take_k hh, bind_ok, bind_ok]
    refine Rz.bind (hx.1 n d 0 [32] ts1 mid (Nat.zero_le _) (by omega) (sep_nx h2).1 (sep_nx h2).2 h1) (fun h => h _ (by simp [nstEs])) (N2 := ∀ r' ∈ nstEs r, r' d) ?_ (fun h r' hr' => h r' (by simp [nstEs, hr']))
    have := args_rest (n := n) (d := d) r hK.tl k (l ++ [e]) mid rest (by simp) (by simp at hk; omega) hr h2
    rwa [List.append_assoc] at this
theorem cut_args {f : Bs → List It} {r : List (Bs → List It)} {ts rest : List Tk} (hm : MT (itArgs (f :: r) ++ [([], s_rp)]) ts rest) : ∃ mid, MT (f []) ts mid ∧ MT (itRest r ++ [([], s_rp)]) mid rest := by
  have hm : MT ((f [] ++ itRest r) ++ [([], s_rp)]) ts rest := hm
  rw [List.append_assoc] at hm
  exact hm.app
theorem args_all {n d : Nat} : ∀ (ks : List Ex), Kd ks → ∀ k ts rest, ks.length < k → Hd rest → MT (itArgs (itEs ks) ++ [([], s_rp)]) ts rest → Rz (∀ r ∈ nstEs ks, r d) (argsP (pf n) d k [] ts) (.ok ks rest)
  | [], _, k, ts, rest, hk, hr, hm => by
    obtain ⟨p, rfl⟩ := cut_end hm
    obtain ⟨k, rfl⟩ : ∃ k', k = k' + 1 := ⟨k - 1, by simp at hk; omega⟩
    unfold argsP
    rw [if_pos (show curK (⟨s_rp, s_rp, p, 0, 0⟩ :: rest) = s_rp from rfl), take_rp hr, bind_ok]
    exact Rz.rfl'
  | e :: r, hK, k, ts, rest, hk, hr, hm => by
    obtain ⟨mid, h1, h2⟩ := cut_args hm
    obtain ⟨k, rfl⟩ : ∃ k', k = k' + 1 := ⟨k - 1, by simp at hk; omega⟩
    have hx := hK.hd
    have hh := itE_rp e _ _ _ hx.2.1 hx.2.2 h1
    unfold argsP
    rw [if_neg hh, if_neg (by simp), bind_ok]
    refine Rz.bind (hx.1 n d 0 [] ts mid (Nat.zero_le _) (by omega) (sep_nx h2).1 (sep_nx h2).2 h1) (fun h => h _ (by simp [nstEs])) (N2 := ∀ r' ∈ nstEs r, r' d) ?_ (fun h r' hr' => h r' (by simp [nstEs, hr']))
    exact args_rest r hK.tl k ([] ++ [e]) mid rest (by simp) (by simp at hk; omega) hr h2
theorem args_hd {ks : List Ex} (hK : Kd ks) {ts rest : List Tk} (hm : MT (itArgs (itEs ks) ++ [([], s_rp)]) ts rest) : Hd ts := by
  cases ks with
  | nil =>
    obtain ⟨p, rfl⟩ := cut_end hm
    exact ⟨_, _, rfl, plain_fine (by decide)⟩
  | cons e r =>
    obtain ⟨mid, h1, h2⟩ := cut_args hm
    exact (itE_hd e _ _ _ hK.hd.2.1 hK.hd.2.2 h1).1
theorem kids_rest {n d m : Nat} : ∀ (ks : List Ex), Kd ks → ∀ l ts rest, ks.length < m → Hd rest → MT (itRest (itEs ks) ++ [([], s_rp)]) ts rest → Rz (∀ r ∈ nstEs ks, r d) (kidsP (pf n) d m ks.length l ts) (.ok (l ++ ks) rest)
  | [], _, l, ts, rest, hl, hr, hm => by
    obtain ⟨p, rfl⟩ := cut_end hm
    show Rz _ (kidsP (pf n) d m 0 l _) _
    unfold kidsP
    rw [take_rp hr, bind_ok, List.append_nil]
    exact Rz.rfl'
  | e :: r, hK, l, ts, rest, hl, hr, hm => by
    obtain ⟨p, ts1, mid, rfl, h1, h2⟩ := cut_rest hm
    have hx := hK.hd
    have hh := (itE_hd e _ _ _ hx.2.1 hx.2.2 h1).1
    show Rz _ (kidsP (pf n) d m (r.length + 1) l _) _
    unfold kidsP
    rw [if_pos (by simpa using hl), take_k hh, bind_ok, bind_ok]
    refine Rz.bind (hx.1 n d 0 [32] ts1 mid (Nat.zero_le _) (by omega) (sep_nx h2).1 (sep_nx h2).2 h1) (fun h => h _ (by simp [nstEs])) (N2 := ∀ r' ∈ nstEs r, r' d) ?_ (fun h r' hr' => h r' (by simp [nstEs, hr']))
    have := kids_rest (n := n) (d := d) (m := m) r hK.tl (l ++ [e]) mid rest (by simp at hl; omega) hr h2
    rwa [List.append_assoc] at this
theorem kids_all {n d m : Nat} {g : Bs} {e : Ex} {r : List Ex} (hK : Kd (e :: r)) {ts mid rest : List Tk} (hm' : m = r.length + 1) (hr : Hd rest) (h1 : MT (itE e g) ts mid) (h2 : MT (itRest (itEs r) ++ [([], s_rp)]) mid rest) : Rz (∀ r' ∈ nstEs (e :: r), r' d) (kidsP (pf n) d m m [] ts) (.ok (e :: r) rest) := by
  have hx := hK.hd
  subst hm'
  conv => arg 2; unfold kidsP
  rw [if_neg (by omega), bind_ok]
  refine Rz.bind (hx.1 n d 0 g ts mid (Nat.zero_le _) (by omega) (sep_nx h2).1 (sep_nx h2).2 h1) (fun h => h _ (by simp [nstEs])) (N2 := ∀ r' ∈ nstEs r, r' d) ?_ (fun h r' hr' => h r' (by simp [nstEs, hr']))
  exact kids_rest (m := r.length + 1) r hK.tl ([] ++ [e]) mid rest (by omega) hr h2
theorem un_prim {N : Prop} {r' : Res Ex} {d : Nat} {t : Tk} {ts : List Tk} (h1 : t.kind ≠ s_minus) (h2 : t.kind ≠ s_bang) (h : ∀ n, Rz N (primaryP (pf n) d (t :: ts)) r') : ∀ n, Rz N ((pf n).unary d (t :: ts)) r'
  | 0 => .inl rfl
  | 1 => by rw [un_pr h1 h2]; exact .inl rfl
  | n + 2 => by rw [un_pr h1 h2, pf_pr]; exact h n
theorem uc_of {kd o n : Int} {nm cb : Bs} {ks : List Ex} (hb : exB (.mk kd o n nm cb ks) = true) (hr : rgE (.mk kd o n nm cb ks)) (h0 : (sgK kd o).1 = []) (hK : ∀ x ∈ ks, XC x ∧ ((sgE x).2 = 8 → UC x)) : UC (.mk kd o n nm cb ks) := by
  intro fu d g ts rest hn hm
  simp only [exB, Bool.and_eq_true] at hb
  obtain ⟨hbs, hh⟩ := hb
  have hk : ∀ x ∈ ks, (XC x ∧ ((sgE x).2 = 8 → UC x)) ∧ exB x = true ∧ rgE x := fun x hx => ⟨hK x hx, exB_of hbs hx, rgE_of hr.2 hx⟩
  have hKd : Kd ks := fun x hx => ⟨(hk x hx).1.1, (hk x hx).2.1, (hk x hx).2.2⟩
  simp only [itE] at hm
  unfold itN at hm
  rw [if_neg (by rw [h0]; simp)] at hm
  show Rz (nstN kd o n ks (nstEs ks) d) _ _
  unfold nstN
  rw [if_neg (by rw [h0]; simp)]
  by_cases k0 : kd = 0
  · rw [if_pos k0] at hm ⊢
    subst k0
    simp [hdB] at hh
    obtain ⟨⟨⟨hks, ho⟩, hnm⟩, hcb⟩ := hh
    subst ho hnm hcb hks
    split at hm
    · rename_i hneg
      obtain ⟨p, ts1, rfl, q, ts2, rfl, rfl⟩ := hm
      rw [dec_tk (by have := hr.1; omega)]
      cases fu with
      | zero => exact .inl rfl
      | succ fu =>
        rw [pf_un]
        unfold unaryP
        rw [if_neg (fun h => h.1 rfl)]
        refine Rz.deep (fun h => h hneg) (N2 := True) ?_ (fun _ => trivial)
        have : stepP (curK (tkP (g, s_minus).2 p :: numT n.natAbs q :: ts2) == s_minus) (tkP (g, s_minus).2 p :: numT n.natAbs q :: ts2) = .ok () (numT n.natAbs q :: ts2) := step_ok rfl (fun h => by have := h.2.2; simp [tkP, curK, s_minus, letter, digit] at this)
        rw [this, bind_ok, if_pos ⟨rfl, rfl⟩, step_hd false hn.hd, bind_ok]
        have : (curT (numT n.natAbs q :: ts2)).n = n := by show -(n.natAbs : Int) = n; omega
        rw [this]
        exact Rz.rfl'
    · rename_i hneg
      obtain ⟨p, ts1, rfl, rfl⟩ := hm
      rw [dec_tk (by have := hr.1; omega)]
      refine un_prim (show k_number ≠ s_minus by decide) (show k_number ≠ s_bang by decide) (fun n' => ?_) fu
      unfold primaryP
      rw [if_pos (show curK (numT n.natAbs p :: ts1) = k_number from rfl), step_hd false hn.hd, bind_ok]
      have : negW (curT (numT n.natAbs p :: ts1)).n = n := by
        show negW (-(n.natAbs : Int)) = n
        unfold negW
        have := hr.1
        rw [if_neg (by omega)]; omega
      rw [this]
      exact Rz.rfl'
  rw [if_neg k0] at hm ⊢
  by_cases k1 : kd = 1
  · rw [if_pos k1] at hm ⊢
    subst k1
    simp [hdB] at hh
    obtain ⟨⟨⟨⟨hks, ho⟩, hn0⟩, hcb⟩, hnm⟩ := hh
    subst hks ho hn0 hcb
    obtain ⟨p, ts1, rfl, rfl⟩ := hm
    rw [name_tk hnm]
    refine un_prim (show k_name ≠ s_minus by decide) (show k_name ≠ s_bang by decide) (fun n' => ?_) fu
    unfold primaryP
    rw [ck, ct]
    show Rz True (if k_name = k_number then _ else if k_name = k_name then _ else _) _
    rw [if_neg (show ¬ k_name = k_number by decide), if_pos rfl, step_hd false hn.hd, bind_ok]
    obtain ⟨u, r, rfl, hf, hl⟩ := hn
    rw [if_pos (show curK (u :: r) ≠ s_lp from hl)]
    exact Rz.rfl'
  rw [if_neg k1] at hm ⊢
  by_cases k2 : kd = 2
  · rw [if_pos k2] at hm ⊢
    subst k2
    simp [hdB] at hh
    obtain ⟨⟨⟨⟨hks, ho⟩, hn0⟩, hnm⟩, hcb⟩ := hh
    subst ho hn0 hnm hcb
    match ks, hks, hk with
    | [x], _, hk =>
    have hx := hk x (by simp)
    obtain ⟨p, ts1, rfl, hm⟩ := hm
    cases fu with
    | zero => exact .inl rfl
    | succ fu =>
      rw [pf_un]
      unfold unaryP
      rw [if_neg (fun h => h.1 rfl)]
      refine Rz.deep (fun h => h.1) (N2 := parN (decide ((sgE x).1 ≠ []) || posB x) (d + 1) (nstE x)) ?_ (fun h => h.2)
      have hm : MT (itPar (decide ((sgE x).1 ≠ []) || posB x) (itE x) []) ts1 rest := hm
      have hd1 : Hd ts1 ∧ curK ts1 ≠ k_number := by
        unfold itPar at hm
        split at hm
        · obtain ⟨q, ts2, rfl, _⟩ := hm
          exact ⟨⟨_, _, rfl, plain_fine (by decide)⟩, by show s_lp ≠ k_number; decide⟩
        · rename_i hc
          simp at hc
          have := itE_hd x _ _ _ hx.2.1 hx.2.2 hm
          exact ⟨this.1, this.2 hc.2 hc.1⟩
      rw [step_hd _ hd1.1, bind_ok, if_neg (fun h => hd1.2 h.2)]
      refine Rz.bind (N1 := parN (decide ((sgE x).1 ≠ []) || posB x) (d + 1) (nstE x)) ?_ id (N2 := True) (k := fun e ts2 => Res.ok (Ex.mk _ 0 0 [] [] [e]) ts2) Rz.rfl' (fun _ => trivial)
      unfold itPar at hm
      unfold parN
      split at hm
      · rename_i hc
        rw [if_pos hc]
        exact par_uc hx.1.1 hx.2.1 hx.2.2 hn.hd id (by unfold itPar; rw [if_pos rfl]; exact hm) fu
      · rename_i hc
        rw [if_neg hc]
        simp at hc
        refine hx.1.2 ?_ fu (d + 1) [] ts1 rest hn hm
        rw [sg8 (by simp [hc.1])]
  rw [if_neg k2] at hm ⊢
  by_cases k3 : kd = 3
  · rw [if_pos k3] at hm ⊢
    subst k3
    simp [hdB] at hh
    obtain ⟨⟨⟨⟨hks, ho⟩, hn0⟩, hnm⟩, hcb⟩ := hh
    subst ho hn0 hnm hcb
    match ks, hks, hk with
    | [x], _, hk =>
    have hx := hk x (by simp)
    obtain ⟨p, ts1, rfl, hm⟩ := hm
    cases fu with
    | zero => exact .inl rfl
    | succ fu =>
      rw [pf_un]
      unfold unaryP
      rw [if_neg (fun h => h.2 rfl)]
      refine Rz.deep (fun h => h.1) (N2 := parN (decide ((sgE x).1 ≠ [])) (d + 1) (nstE x)) ?_ (fun h => h.2)
      have hm : MT (itPar (decide ((sgE x).1 ≠ [])) (itE x) []) ts1 rest := hm
      have hd1 : Hd ts1 := by
        unfold itPar at hm
        split at hm
        · obtain ⟨q, ts2, rfl, _⟩ := hm
          exact ⟨_, _, rfl, plain_fine (by decide)⟩
        · exact (itE_hd x _ _ _ hx.2.1 hx.2.2 hm).1
      rw [step_hd _ hd1, bind_ok, if_neg (fun h => absurd h.1 (by show ¬ s_bang = s_minus; decide))]
      refine Rz.bind (N1 := parN (decide ((sgE x).1 ≠ [])) (d + 1) (nstE x)) ?_ id (N2 := True) (k := fun e ts2 => Res.ok (Ex.mk _ 0 0 [] [] [e]) ts2) Rz.rfl' (fun _ => trivial)
      unfold itPar at hm
      unfold parN
      split at hm
      · rename_i hc
        rw [if_pos hc]
        exact par_uc hx.1.1 hx.2.1 hx.2.2 hn.hd id (by unfold itPar; rw [if_pos rfl]; exact hm) fu
      · rename_i hc
        rw [if_neg hc]
        simp at hc
        refine hx.1.2 ?_ fu (d + 1) [] ts1 rest hn hm
        rw [sg8 (by simp [hc])]
  rw [if_neg k3] at hm ⊢
  have hlp : ∀ {p : Nat} {r : List Tk}, Hd (⟨s_lp, s_lp, p, 0, 0⟩ :: r) := ⟨_, _, rfl, plain_fine (by decide)⟩
  by_cases k4 : kd = 4
  · rw [if_pos k4] at hm
    subst k4
    simp [hdB] at hh
    obtain ⟨⟨⟨⟨hks, hop⟩, hn0⟩, hnm⟩, hcb⟩ := hh
    subst hn0 hnm hcb
    have hmm := minmax hop (by rw [h0]; simp)
    have hsp : ∀ p, tkP (opNm o) p = ⟨opNm o, opNm o, p, 0, 0⟩ := fun p => by rcases hmm.1 with h | h <;> rw [h] <;> rfl
    match ks, hks, hKd with
    | [x, y], _, hKd =>
    obtain ⟨p, ts1, rfl, q, ts2, rfl, hm⟩ := hm
    obtain ⟨mid, h1, h2⟩ := cut_args hm
    have hx := hKd.hd
    have hd2 := (itE_hd x _ _ _ hx.2.1 hx.2.2 h1).1
    rw [hsp]
    have hne : opNm o ≠ k_number ∧ opNm o ≠ k_name ∧ opNm o ≠ s_lp ∧ opNm o ≠ s_minus ∧ opNm o ≠ s_bang ∧ opNm o ≠ k_reduce ∧ opNm o ≠ k_each := by rcases hmm.1 with h | h <;> rw [h] <;> decide
    refine un_prim hne.2.2.2.1 hne.2.2.2.2.1 (fun n' => ?_) fu
    unfold primaryP
    rw [ck, ct]
    dsimp only
    rw [if_neg hne.1, if_neg hne.2.1, if_neg hne.2.2.1, if_pos (by rcases hmm.1 with h | h; exact .inl h; exact .inr (.inl h))]
    refine Rz.deep (fun h => h.1) (N2 := ∀ r ∈ nstEs [x, y], r (d + 1)) ?_ (fun h => h.2)
    rw [show tkP (([] : Bs), s_lp).2 q = ⟨s_lp, s_lp, q, 0, 0⟩ from rfl, step_hd _ hlp, bind_ok, take_k hd2, bind_ok]
    unfold formP
    rw [ck]
    dsimp only
    rw [if_neg hne.2.2.2.2.2.1, if_neg hne.2.2.2.2.2.2]
    refine Rz.bind (kids_all hKd rfl hn.hd h1 h2) id (N2 := True) ?_ (fun _ => trivial)
    rw [hmm.2]
    exact Rz.rfl'
  rw [if_neg k4] at hm
  by_cases k5 : kd = 5
  · rw [if_pos k5] at hm
    subst k5
    simp [hdB] at hh
    obtain ⟨⟨⟨ho, hn0⟩, hcb⟩, hnm⟩ := hh
    subst ho hn0 hcb
    obtain ⟨p, ts1, rfl, q, ts2, rfl, hm⟩ := hm
    have hd2 : Hd ts2 := args_hd hKd hm
    rw [name_tk hnm]
    refine un_prim (show k_name ≠ s_minus by decide) (show k_name ≠ s_bang by decide) (fun n' => ?_) fu
    unfold primaryP
    rw [ck, ct]
    dsimp only
    rw [if_neg (show ¬ k_name = k_number by decide), if_pos rfl]
    rw [show tkP (([] : Bs), s_lp).2 q = ⟨s_lp, s_lp, q, 0, 0⟩ from rfl, step_hd _ hlp, bind_ok, if_neg (fun h => h rfl)]
    refine Rz.deep (fun h => h.1) (N2 := ∀ r ∈ nstEs ks, r (d + 1)) ?_ (fun h => h.2)
    rw [step_hd _ hd2, bind_ok]
    refine Rz.bind (args_all ks hKd _ _ _ ?_ hn.hd hm) id (N2 := True) Rz.rfl' (fun _ => trivial)
    have h3 := args_len ks
    rw [hm.len, List.length_append]
    simp; omega
  rw [if_neg k5] at hm
  by_cases k6 : kd = 6
  · rw [if_pos k6] at hm
    subst k6
    simp [hdB] at hh
    obtain ⟨⟨⟨⟨hks, ho⟩, hn0⟩, hnm⟩, hcb⟩ := hh
    subst ho hn0
    match ks, hks, hKd with
    | x :: r, hks, hKd =>
    obtain ⟨p1, ts1, rfl, p2, ts2, rfl, p3, ts3, rfl, p4, ts4, rfl, p5, ts5, rfl, hm⟩ := hm
    obtain ⟨p6, ts6, mid, rfl, h1, h2⟩ := cut_rest hm
    have hx := hKd.hd
    have hd2 := (itE_hd x _ _ _ hx.2.1 hx.2.2 h1).1
    have hnme : ∀ {s : Bs} {p : Nat} {r : List Tk}, Hd (⟨k_name, s, p, 0, 0⟩ :: r) := ⟨_, _, rfl, plain_fine (by decide)⟩
    have hcm : ∀ {p : Nat} {r : List Tk}, Hd (⟨s_comma, s_comma, p, 0, 0⟩ :: r) := ⟨_, _, rfl, plain_fine (by decide)⟩
    rw [name_tk hnm, name_tk hcb]
    refine un_prim (show k_reduce ≠ s_minus by decide) (show k_reduce ≠ s_bang by decide) (fun n' => ?_) fu
    show Rz _ (primaryP (pf n') d (⟨k_reduce, k_reduce, p1, 0, 0⟩ :: ⟨s_lp, s_lp, p2, 0, 0⟩ :: ⟨k_name, nm, p3, 0, 0⟩ :: ⟨s_comma, s_comma, p4, 0, 0⟩ :: ⟨k_name, cb, p5, 0, 0⟩ :: ⟨s_comma, s_comma, p6, 0, 0⟩ :: ts6)) _
    unfold primaryP
    rw [ck, ct]
    dsimp only
    rw [if_neg (by decide), if_neg (by decide), if_neg (by decide), if_pos (.inr (.inr (.inl rfl)))]
    refine Rz.deep (fun h => h.1) (N2 := ∀ r' ∈ nstEs (x :: r), r' (d + 1)) ?_ (fun h => h.2)
    rw [step_hd _ hlp, bind_ok, take_kt hnme, bind_ok]
    unfold formP
    rw [ck]
    dsimp only
    rw [if_pos rfl, take_kt hcm, bind_ok, take_kt hnme, bind_ok, take_kt hcm, bind_ok, take_kt hd2, bind_ok]
    exact Rz.bind (kids_all hKd (by simpa using hks.symm) hn.hd h1 h2) id (N2 := True) Rz.rfl' (fun _ => trivial)
  rw [if_neg k6] at hm
  have k7 : kd = 7 := by
    unfold hdB at hh
    rw [if_neg k0, if_neg k1, if_neg (by simp [k2, k3])] at hh
    split at hh
    · rename_i h; exfalso
      rcases h with h | h <;> subst h
      · exact absurd h0 (show ¬ (sgn2 s_andd).1 = [] by decide)
      · exact absurd h0 (show ¬ (sgn2 s_orr).1 = [] by decide)
    · split at hh
      · assumption
      · exact absurd hh (by simp)
  subst k7
  simp [hdB] at hh
  obtain ⟨⟨⟨⟨hks, ho⟩, hn0⟩, hcb⟩, hnm⟩ := hh
  subst ho hn0 hcb
  match ks, hks, hKd with
  | x :: r, hks, hKd =>
  obtain ⟨p1, ts1, rfl, p2, ts2, rfl, p3, ts3, rfl, hm⟩ := hm
  obtain ⟨p6, ts6, mid, rfl, h1, h2⟩ := cut_rest hm
  have hx := hKd.hd
  have hd2 := (itE_hd x _ _ _ hx.2.1 hx.2.2 h1).1
  have hnme : ∀ {s : Bs} {p : Nat} {r : List Tk}, Hd (⟨k_name, s, p, 0, 0⟩ :: r) := ⟨_, _, rfl, plain_fine (by decide)⟩
  have hcm : ∀ {p : Nat} {r : List Tk}, Hd (⟨s_comma, s_comma, p, 0, 0⟩ :: r) := ⟨_, _, rfl, plain_fine (by decide)⟩
  rw [name_tk hnm]
  refine un_prim (show k_each ≠ s_minus by decide) (show k_each ≠ s_bang by decide) (fun n' => ?_) fu
  show Rz _ (primaryP (pf n') d (⟨k_each, k_each, p1, 0, 0⟩ :: ⟨s_lp, s_lp, p2, 0, 0⟩ :: ⟨k_name, nm, p3, 0, 0⟩ :: ⟨s_comma, s_comma, p6, 0, 0⟩ :: ts6)) _
  unfold primaryP
  rw [ck, ct]
  dsimp only
  rw [if_neg (by decide), if_neg (by decide), if_neg (by decide), if_pos (.inr (.inr (.inr rfl)))]
  refine Rz.deep (fun h => h.1) (N2 := ∀ r' ∈ nstEs (x :: r), r' (d + 1)) ?_ (fun h => h.2)
  rw [step_hd _ hlp, bind_ok, take_kt hnme, bind_ok]
  unfold formP
  rw [ck]
  dsimp only
  rw [if_neg (show ¬ k_each = k_reduce by decide), if_pos rfl, take_kt hcm, bind_ok, take_kt hd2, bind_ok]
  exact Rz.bind (kids_all hKd (by simpa using hks.symm) hn.hd h1 h2) id (N2 := True) Rz.rfl' (fun _ => trivial)
end Go.Tx
namespace Go.Tx
theorem sg_nolp {lv : Nat} {s : Bs} (h : standsB lv s = true) : s ≠ s_lp ∧ s ≠ k_number := by
  obtain ⟨_, l, h2, h3⟩ := stands_lt h
  have key : (levels.all fun l => l.all fun s => decide (s ≠ s_lp ∧ s ≠ k_number)) = true := by decide
  have := List.all_eq_true.1 (List.all_eq_true.1 key l (List.mem_of_getElem? h2)) s h3
  simpa using this
theorem par_lc {e : Ex} {b : Bool} {d lv n : Nat} {g : Bs} {ts rest : List Tk} (hx : XC e) (hl : LC e) (hb : exB e = true) (hr : rgE e) (hn : NX rest) (hs : NS (lv + 1) rest) (h8 : lv < 8) (hlv : b = false → lv ≤ (sgE e).2) (hm : MT (itPar b (itE e) g) ts rest) : ∃ k, rest.length < k ∧ Rz (parN b d (nstE e)) (exprP (pf n) lv d ts) (loopE (pf n) lv d k e rest) := by
  cases b with
  | true =>
    refine ⟨rest.length + 1, by omega, ?_⟩
    unfold exprP
    rw [if_neg (by omega)]
    exact Rz.bind (par_xc hx hb hr hn hs (by omega) (fun h => by cases h) hm) id (N2 := True) Rz.rfl' (fun _ => trivial)
  | false =>
    have hm : MT (itE e g) ts rest := by unfold itPar at hm; rw [if_neg (by simp)] at hm; exact hm
    obtain ⟨k, h1, h2⟩ := hl n d lv g ts rest (hlv rfl) h8 hn hs hm
    exact ⟨k, h1, h2.mono (by unfold parN; rw [if_neg (by simp)]; exact id)⟩
theorem le_of {kd o n : Int} {nm cb : Bs} {a b : Ex} (hb : exB (.mk kd o n nm cb [a, b]) = true) (hr : rgE (.mk kd o n nm cb [a, b])) (h0 : (sgK kd o).1 ≠ []) (ha : XC a ∧ LC a) (hbx : XC b) : LE (.mk kd o n nm cb [a, b]) := by
  intro fu d g ts rest h8 hn hs hm
  simp only [exB, exBs, Bool.and_eq_true] at hb
  obtain ⟨⟨hba, hbb, _⟩, hh⟩ := hb
  have hra := hr.2.1
  have hrb := hr.2.2.1
  obtain ⟨s, lv, hsl⟩ : ∃ s lv, sgK kd o = (s, lv) := ⟨_, _, rfl⟩
  have hne : s ≠ [] := by rw [hsl] at h0; exact h0
  have hst := (sg_stands hsl hne).1
  have hlv : (sgE (.mk kd o n nm cb [a, b])).2 = lv := by show (sgK kd o).2 = lv; rw [hsl]
  rw [hlv] at h8 hs ⊢
  simp only [itE] at hm
  unfold itN at hm
  rw [if_pos h0, hsl] at hm
  have hm : MT (itPar (decide ((sgE a).2 < lv)) (itE a) g ++ ([32], s) :: itPar (decide ((sgE b).2 ≤ lv)) (itE b) [32]) ts rest := hm
  obtain ⟨mid, h1, p, ts2, rfl, h2⟩ := hm.app
  have htk : tkP ([32], s).2 p = ⟨s, s, p, 0, 0⟩ := sgn_tk hst p
  rw [htk] at h1
  have hmn : NX (⟨s, s, p, 0, 0⟩ :: ts2) := ⟨_, _, rfl, plain_fine (sg_nolp hst).2, (sg_nolp hst).1⟩
  have hms : NS (lv + 1) (⟨s, s, p, 0, 0⟩ :: ts2) := fun j hj => by
    show standsB j s = false
    exact stands_one hst (by omega)
  obtain ⟨k, hk, hz⟩ := par_lc (d := d) (n := fu) ha.1 ha.2 hba hra hmn hms h8 (fun h => by simp at h; exact h) h1
  have hlen := h2.len
  obtain ⟨k, rfl⟩ : ∃ k', k = k' + 1 := ⟨k - 1, by omega⟩
  refine ⟨k, by simp at hk; omega, ?_⟩
  have hN : nstE (.mk kd o n nm cb [a, b]) d = (parN (decide ((sgE a).2 < lv)) d (nstE a) ∧ parN (decide ((sgE b).2 ≤ lv)) d (nstE b)) := by
    show nstN kd o n [a, b] (nstEs [a, b]) d = _
    unfold nstN
    rw [if_pos h0, hsl]
    rfl
  rw [hN]
  refine hz.trans (fun h => h.1) (N2 := parN (decide ((sgE b).2 ≤ lv)) d (nstE b)) ?_ (fun h => h.2)
  have hlo : loopE (pf fu) lv d (k + 1) a (⟨s, s, p, 0, 0⟩ :: ts2) = (stepP false (⟨s, s, p, 0, 0⟩ :: ts2)).bind fun _ ts1 => ((pf fu).expr (lv + 1) d ts1).bind fun r ts2' => loopE (pf fu) lv d k (joinP s a r) ts2' := by
    conv => lhs; unfold loopE
    rw [if_pos (show standsB lv (curK (⟨s, s, p, 0, 0⟩ :: ts2)) = true from hst)]
    rfl
  rw [hlo]
  have hd2 : Hd ts2 := by
    unfold itPar at h2
    split at h2
    · obtain ⟨q, ts3, rfl, _⟩ := h2
      exact ⟨_, _, rfl, plain_fine (by decide)⟩
    · exact (itE_hd b _ _ _ hbb hrb h2).1
  rw [step_hd _ hd2, bind_ok]
  refine Rz.bind (par_xc (n := fu) (d := d) (lv := lv + 1) hbx hbb hrb hn hs (by omega) (fun h => by simp at h; exact h) h2) id (N2 := True) ?_ (fun _ => trivial)
  rw [join_sg a b hsl hne hh]
  exact Rz.rfl'
theorem xc_all : ∀ (m : Nat) (e : Ex), nE e ≤ m → exB e = true → rgE e → XC e ∧ LC e ∧ ((sgE e).2 = 8 → UC e)
  | 0, .mk kd o n nm cb ks, h, _, _ => by simp only [nE] at h; omega
  | m + 1, .mk kd o n nm cb ks, h, hb, hr => by
    have hbb := hb
    simp only [exB, Bool.and_eq_true] at hbb
    have hk : ∀ x ∈ ks, XC x ∧ LC x ∧ ((sgE x).2 = 8 → UC x) := fun x hx => xc_all m x (by have := nE_of hx; simp only [nE] at h; omega) (exB_of hbb.1 hx) (rgE_of hr.2 hx)
    have h8 := sg_le (.mk kd o n nm cb ks)
    by_cases h0 : (sgK kd o).1 = []
    · have hu := uc_of hb hr h0 fun x hx => ⟨(hk x hx).1, (hk x hx).2.2⟩
      have he : sgE (.mk kd o n nm cb ks) = ([], 8) := sg8 (by show ¬ (sgK kd o).1 ≠ []; rw [h0]; simp)
      have hle : LE (.mk kd o n nm cb ks) := fun n d g ts rest h => by rw [he] at h; exact absurd h (by decide)
      have hx := XC.of (fun _ => hu) h8 hle
      exact ⟨hx, LC.of hx hle h8, fun _ => hu⟩
    · have h2 := kids_two hbb.2 h0
      match ks, h2, hb, hr, hk, h8 with
      | [a, b], _, hb, hr, hk, h8 =>
        have hle := le_of hb hr h0 ⟨(hk a (by simp)).1, (hk a (by simp)).2.1⟩ (hk b (by simp)).1
        have hlt : (sgE (.mk kd o n nm cb [a, b])).2 < 8 := sg_lv h0
        have hx := XC.of (fun h => by omega) h8 hle
        exact ⟨hx, LC.of hx hle h8, fun h => by omega⟩
theorem xc (e : Ex) (hb : exB e = true) (hr : rgE e) : XC e := (xc_all (nE e) e (Nat.le_refl _) hb hr).1
theorem kd_of {ks : List Ex} (hb : exBs ks = true) (hr : rgEs ks) : Kd ks := fun x hx => ⟨xc x (exB_of hb hx) (rgE_of hr hx), exB_of hb hx, rgE_of hr hx⟩
end Go.Tx
namespace Go.Tx
def nlT (o : Nat) : Bs := 10 :: tabs o
def itElse (o : Nat) (f : List St) (one many : List It) : List It := match f with
  | [] => []
  | .mk kd _ _ _ _ :: r => if r = [] ∧ kd = 4 then ([32], k_else) :: one else ([32], k_else) :: ([32], s_lb) :: (many ++ [(nlT o, s_rb)])
def itSt (kd : Int) (nm : Bs) (e : List It) (o : Nat) (b els : List It) (g : Bs) : List It :=
  if kd = 0 then (g, k_let) :: ([32], nm) :: ([32], s_asg) :: (e ++ [([], s_semi)])
  else if kd = 1 then (g, nm) :: ([32], s_asg) :: (e ++ [([], s_semi)])
  else if kd = 2 then (g, k_spawn) :: ([32], nm) :: ([32], s_asg) :: (e ++ [([], s_semi)])
  else if kd = 3 then [(g, k_sync), ([], s_semi)]
  else if kd = 8 then [(g, k_break), ([], s_semi)]
  else if kd = 9 then [(g, k_continue), ([], s_semi)]
  else if kd = 6 then (g, k_do) :: (e ++ [([], s_semi)])
  else if kd = 7 then (g, k_return) :: (e ++ [([], s_semi)])
  else if kd = 5 then (g, k_while) :: (e ++ ([32], s_lb) :: (b ++ [(nlT o, s_rb)]))
  else if kd = 4 then (g, k_if) :: (e ++ ([32], s_lb) :: (b ++ (nlT o, s_rb) :: els))
  else []
mutual
def itS : Nat → St → Bs → List It
  | o, .mk kd nm e b f => itSt kd nm (itE e [32]) o (itB (o + 1) b) (itElse o f (itH o f) (itB (o + 1) f))
def itB : Nat → List St → List It
  | _, [] => []
  | o, s :: r => itS o s (nlT o) ++ itB o r
def itH : Nat → List St → List It
  | _, [] => []
  | o, s :: _ => itS o s [32]
end
def itP (ps : List Bs) : List (Bs → List It) := ps.map fun p g => [(g, p)]
def itF (f : Fnc) (g : Bs) : List It := (g, k_fn) :: ([32], f.name) :: ([], s_lp) :: (itArgs (itP f.params) ++ ([], s_rp) :: ([32], s_lb) :: (itB 1 f.body ++ [([10], s_rb)]))
def itL : List Fnc → Bs → List It
  | [], _ => []
  | f :: r, g => itF f g ++ itL r [10]
theorem st_cases {kd : Int} {nm : Bs} {e : Ex} {b f : List St} (h : stB (.mk kd nm e b f) = true) :
    (kd = 0 ∧ isNameB nm = true ∧ exB e = true ∧ b = [] ∧ f = []) ∨ (kd = 1 ∧ isNameB nm = true ∧ exB e = true ∧ b = [] ∧ f = []) ∨ (kd = 2 ∧ isNameB nm = true ∧ isCall e = true ∧ exB e = true ∧ b = [] ∧ f = []) ∨ (kd = 3 ∧ nm = [] ∧ e = .zero ∧ b = [] ∧ f = []) ∨ (kd = 8 ∧ nm = [] ∧ e = .zero ∧ b = [] ∧ f = []) ∨ (kd = 9 ∧ nm = [] ∧ e = .zero ∧ b = [] ∧ f = []) ∨ (kd = 6 ∧ nm = [] ∧ exB e = true ∧ b = [] ∧ f = []) ∨ (kd = 7 ∧ nm = [] ∧ exB e = true ∧ b = [] ∧ f = []) ∨ (kd = 5 ∧ nm = [] ∧ exB e = true ∧ stBs b = true ∧ f = []) ∨ (kd = 4 ∧ nm = [] ∧ exB e = true ∧ stBs b = true ∧ stBs f = true) := by
  have hz : ∀ e : Ex, zeroB e = true → e = .zero := fun e h => by
    obtain ⟨a, b, c, d, x, y⟩ := e
    simp [zeroB] at h
    obtain ⟨⟨⟨⟨⟨rfl, rfl⟩, rfl⟩, rfl⟩, rfl⟩, rfl⟩ := h
    rfl
  unfold stB at h
  split at h
  · rename_i hk
    simp at h
    rcases hk with hk | hk
    · exact .inl ⟨hk, h.1.1.1, h.1.1.2, h.1.2, h.2⟩
    · exact .inr (.inl ⟨hk, h.1.1.1, h.1.1.2, h.1.2, h.2⟩)
  · split at h
    · rename_i hk
      simp at h
      exact .inr (.inr (.inl ⟨hk, h.1.1.1.1, h.1.1.1.2, h.1.1.2, h.1.2, h.2⟩))
    · split at h
      · rename_i hk
        simp at h
        have := hz e h.1.1.2
        rcases hk with hk | hk | hk
        · exact .inr (.inr (.inr (.inl ⟨hk, h.1.1.1, this, h.1.2, h.2⟩)))
        · exact .inr (.inr (.inr (.inr (.inl ⟨hk, h.1.1.1, this, h.1.2, h.2⟩))))
        · exact .inr (.inr (.inr (.inr (.inr (.inl ⟨hk, h.1.1.1, this, h.1.2, h.2⟩)))))
      · split at h
        · rename_i hk
          simp at h
          rcases hk with hk | hk
          · exact .inr (.inr (.inr (.inr (.inr (.inr (.inl ⟨hk, h.1.1.1, h.1.1.2, h.1.2, h.2⟩))))))
          · exact .inr (.inr (.inr (.inr (.inr (.inr (.inr (.inl ⟨hk, h.1.1.1, h.1.1.2, h.1.2, h.2⟩)))))))
        · split at h
          · rename_i hk
            simp at h
            exact .inr (.inr (.inr (.inr (.inr (.inr (.inr (.inr (.inl ⟨hk, h.1.1.1, h.1.1.2, h.1.2, h.2⟩))))))))
          · split at h
            · rename_i hk
              simp at h
              exact .inr (.inr (.inr (.inr (.inr (.inr (.inr (.inr (.inr ⟨hk, h.1.1.1, h.1.1.2, h.1.2, h.2⟩))))))))
            · cases h
mutual
theorem itS_rnd : ∀ (s : St) (o : Nat) (g : Bs), stB s = true → rnd (itS o s g) = g ++ txS o s
  | .mk kd nm e b f, o, g, h => by
    have hc := st_cases h
    have he : ∀ g, rnd (itE e g) = g ++ txE e := fun g => itE_rnd e g (by
      rcases hc with h | h | h | h | h | h | h | h | h | h
      · exact h.2.2.1
      · exact h.2.2.1
      · exact h.2.2.2.1
      · rw [h.2.2.1]; rfl
      · rw [h.2.2.1]; rfl
      · rw [h.2.2.1]; rfl
      · exact h.2.2.1
      · exact h.2.2.1
      · exact h.2.2.1
      · exact h.2.2.1)
    simp only [itS, txS]
    rcases hc with h | h | h | h | h | h | h | h | h | h
    · rw [h.1]; simp [itSt, stT, rnd_cons, rnd_app, rnd_nil, he, s_asg, s_semi]
    · rw [h.1]; simp [itSt, stT, rnd_cons, rnd_app, rnd_nil, he, s_asg, s_semi]
    · rw [h.1]; simp [itSt, stT, rnd_cons, rnd_app, rnd_nil, he, s_asg, s_semi]
    · rw [h.1]; simp [itSt, stT, rnd_cons, rnd_app, rnd_nil, s_semi]
    · rw [h.1]; simp [itSt, stT, rnd_cons, rnd_app, rnd_nil, s_semi]
    · rw [h.1]; simp [itSt, stT, rnd_cons, rnd_app, rnd_nil, s_semi]
    · rw [h.1]; simp [itSt, stT, rnd_cons, rnd_app, rnd_nil, he, s_semi]
    · rw [h.1]; simp [itSt, stT, rnd_cons, rnd_app, rnd_nil, he, s_semi]
    · have hb := itB_rnd b (o + 1) h.2.2.2.1
      rw [h.1]
      have : ∀ x, 10 :: (txB (o + 1) b ++ x) = rnd (itB (o + 1) b) ++ 10 :: x := fun x => by
        have := congrArg (· ++ x) hb
        simpa using this
      simp [itSt, stT, rnd_cons, rnd_app, rnd_nil, he, s_rb, s_lb, nlT, this]
    · have hb := itB_rnd b (o + 1) h.2.2.2.1
      rw [h.1]
      have hb : ∀ x, 10 :: (txB (o + 1) b ++ x) = rnd (itB (o + 1) b) ++ 10 :: x := fun x => by
        have := congrArg (· ++ x) hb
        simpa using this
      have hel : rnd (itElse o f (itH o f) (itB (o + 1) f)) = elseT o f (txH o f) (txB (o + 1) f) := by
        match f, h.2.2.2.2 with
        | [], _ => rfl
        | .mk kd2 nm2 e2 b2 f2 :: r, hf =>
          simp only [itElse, elseT]
          have hff := itB_rnd (.mk kd2 nm2 e2 b2 f2 :: r) (o + 1) hf
          have hff : ∀ x, 10 :: (txB (o + 1) (.mk kd2 nm2 e2 b2 f2 :: r) ++ x) = rnd (itB (o + 1) (.mk kd2 nm2 e2 b2 f2 :: r)) ++ 10 :: x := fun x => by
            have := congrArg (· ++ x) hff
            simpa using this
          split
          · have hs := itS_rnd (.mk kd2 nm2 e2 b2 f2) o [32] (by simp only [stBs, Bool.and_eq_true] at hf; exact hf.1)
            rw [rnd_cons]
            simp only [itH, txH]
            rw [hs]
            simp
          · rw [rnd_cons, rnd_cons, rnd_app, rnd_cons]
            simp [s_lb, s_rb, nlT, rnd_nil, hff]
      simp [itSt, stT, rnd_cons, rnd_app, rnd_nil, he, s_rb, s_lb, nlT, hb, hel]
theorem itB_rnd : ∀ (b : List St) (o : Nat), stBs b = true → 10 :: txB o b = rnd (itB o b) ++ [10]
  | [], o, _ => rfl
  | s :: r, o, h => by
    simp only [stBs, Bool.and_eq_true] at h
    have h1 := itS_rnd s o (nlT o) h.1
    have h2 := itB_rnd r o h.2
    simp only [itB, txB, rnd_app]
    rw [h1, List.append_assoc, ← h2]
    simp [nlT]
end
theorem itP_rnd : ∀ ps : List Bs, RndL (itP ps) ps
  | [] => trivial
  | p :: r => ⟨fun g => by simp [rnd_cons, rnd_nil], itP_rnd r⟩
theorem itF_rnd (f : Fnc) (g : Bs) (h : fnB f = true) : rnd (itF f g) ++ [10] = g ++ txF f := by
  simp only [fnB, Bool.and_eq_true] at h
  have hb := itB_rnd f.body 1 h.2
  have hb : ∀ x, 10 :: (txB 1 f.body ++ x) = rnd (itB 1 f.body) ++ 10 :: x := fun x => by
    have := congrArg (· ++ x) hb
    simpa using this
  unfold itF txF
  simp [rnd_cons, rnd_app, rnd_nil, itArgs_rnd (itP_rnd f.params), s_lp, s_rp, s_lb, s_rb, hb]
theorem itL_rnd : ∀ (l : List Fnc) (g : Bs), l ≠ [] → (l.all fnB) = true → rnd (itL l g) ++ [10] = g ++ whole l
  | [], _, h, _ => absurd rfl h
  | [f], g, _, h => by
    simp only [List.all_cons, Bool.and_eq_true] at h
    simp only [itL, List.append_nil]
    rw [itF_rnd f g h.1]
    simp [whole]
  | f :: f2 :: r, g, _, h => by
    simp only [List.all_cons, Bool.and_eq_true] at h
    have h1 := itF_rnd f g h.1
    have h2 := itL_rnd (f2 :: r) [10] (by simp) (by simp only [List.all_cons, Bool.and_eq_true]; exact h.2)
    have e : rnd (itL (f :: f2 :: r) g) = rnd (itF f g) ++ rnd (itL (f2 :: r) [10]) := by
      rw [show itL (f :: f2 :: r) g = itF f g ++ itL (f2 :: r) [10] from rfl, rnd_app]
    rw [e, List.append_assoc, h2, ← List.append_assoc, h1, List.append_assoc]
    simp [whole]
end Go.Tx
namespace Go.Tx
theorem no_lb : NoSign s_lb := fun lv => by
  match lv with
  | 0 | 1 | 2 | 3 | 4 | 5 | 6 | 7 => rfl
  | n + 8 => rfl
def Sw (w : Bs) : Prop := isNameB w = true ∨ w ∈ [k_let, k_spawn, k_sync, k_if, k_while, k_do, k_return, k_break, k_continue]
theorem itS_fst (s : St) (o : Nat) (g : Bs) (h : stB s = true) : ∃ w tl, itS o s g = (g, w) :: tl ∧ Sw w := by
  obtain ⟨kd, nm, e, b, f⟩ := s
  simp only [itS]
  rcases st_cases h with h | h | h | h | h | h | h | h | h | h <;> rw [h.1]
  · exact ⟨k_let, _, rfl, .inr (by decide)⟩
  · exact ⟨nm, _, rfl, .inl h.2.1⟩
  · exact ⟨k_spawn, _, rfl, .inr (by decide)⟩
  · exact ⟨k_sync, _, rfl, .inr (by decide)⟩
  · exact ⟨k_break, _, rfl, .inr (by decide)⟩
  · exact ⟨k_continue, _, rfl, .inr (by decide)⟩
  · exact ⟨k_do, _, rfl, .inr (by decide)⟩
  · exact ⟨k_return, _, rfl, .inr (by decide)⟩
  · exact ⟨k_while, _, rfl, .inr (by decide)⟩
  · exact ⟨k_if, _, rfl, .inr (by decide)⟩
def SN (k : Bs) : Prop := k ≠ k_number ∧ k ≠ s_rb ∧ k ≠ k_else ∧ k ≠ s_lp ∧ beginsB k = true
theorem Sw.k {w : Bs} (h : Sw w) (p : Nat) : ∃ k, tkP w p = ⟨k, w, p, 0, 0⟩ ∧ SN k := by
  rcases h with h | h
  · exact ⟨k_name, name_tk h p, by unfold SN; decide⟩
  · simp only [List.mem_cons, List.not_mem_nil, or_false] at h
    rcases h with h | h | h | h | h | h | h | h | h <;> subst h <;> exact ⟨_, rfl, by unfold SN; decide⟩
def Nx (ts : List Tk) : Prop := Hd ts ∧ curK ts ≠ k_else
theorem st_hd {s : St} {o : Nat} {g : Bs} {ts rest : List Tk} (h : stB s = true) (hm : MT (itS o s g) ts rest) : Hd ts ∧ SN (curK ts) := by
  obtain ⟨w, tl, h1, h2⟩ := itS_fst s o g h
  rw [h1] at hm
  obtain ⟨p, ts1, rfl, _⟩ := hm
  obtain ⟨k, hk, hs⟩ := h2.k p
  show Hd (tkP w p :: ts1) ∧ SN (tkP w p).kind
  rw [hk]
  exact ⟨⟨_, _, rfl, plain_fine hs.1⟩, hs⟩
def SC (s : St) : Prop := ∀ n d o g ts rest, Nx rest → MT (itS o s g) ts rest → Rz (nstS s d) (stmtP (pf n) d ts) (.ok s rest)
def CC (s : St) : Prop := ∀ n d o g ts rest, Nx rest → MT (itS o s g) ts rest → Rz (nstS s d) ((pf n).choice d ts) (.ok s rest)
theorem itS_ne (s : St) (o : Nat) (g : Bs) (h : stB s = true) : 1 ≤ (itS o s g).length := by
  obtain ⟨w, tl, h1, h2⟩ := itS_fst s o g h
  rw [h1]; simp
theorem itB_len : ∀ (b : List St) (o : Nat), stBs b = true → b.length ≤ (itB o b).length
  | [], _, _ => Nat.le_refl _
  | s :: r, o, h => by
    simp only [stBs, Bool.and_eq_true] at h
    have := itS_ne s o (nlT o) h.1
    have := itB_len r o h.2
    simp only [itB, List.length_append, List.length_cons]; omega
theorem b_hd {b : List St} {o p : Nat} {ts rest : List Tk} (h : stBs b = true) (hm : MT (itB o b) ts (⟨s_rb, s_rb, p, 0, 0⟩ :: rest)) : Nx ts := by
  cases b with
  | nil =>
    rw [show ts = _ from hm]
    exact ⟨⟨_, _, rfl, plain_fine (by decide)⟩, by show s_rb ≠ k_else; decide⟩
  | cons s r =>
    simp only [stBs, Bool.and_eq_true] at h
    simp only [itB] at hm
    obtain ⟨mid, h1, _⟩ := hm.app
    have := st_hd h.1 h1
    exact ⟨this.1, this.2.2.2.1⟩
theorem loopB_all {n d o p : Nat} {rest : List Tk} : ∀ (b : List St), stBs b = true → (∀ s ∈ b, SC s) → ∀ k l ts, b.length < k → MT (itB o b) ts (⟨s_rb, s_rb, p, 0, 0⟩ :: rest) → Rz (nstB b d) (loopB (pf n) d k l ts) (.ok (l ++ b) (⟨s_rb, s_rb, p, 0, 0⟩ :: rest))
  | [], _, _, k, l, ts, hk, hm => by
    rw [show ts = _ from hm]
    obtain ⟨k, rfl⟩ : ∃ k', k = k' + 1 := ⟨k - 1, by simp at hk; omega⟩
    unfold loopB
    rw [if_pos (show curK (⟨s_rb, s_rb, p, 0, 0⟩ :: rest) = s_rb from rfl), List.append_nil]
    exact Rz.rfl'
  | s :: r, hb, hs, k, l, ts, hk, hm => by
    simp only [stBs, Bool.and_eq_true] at hb
    simp only [itB] at hm
    obtain ⟨mid, h1, h2⟩ := hm.app
    obtain ⟨k, rfl⟩ : ∃ k', k = k' + 1 := ⟨k - 1, by simp at hk; omega⟩
    unfold loopB
    rw [if_neg (st_hd hb.1 h1).2.2.1]
    refine Rz.bind (hs s (by simp) n d o _ ts mid (b_hd hb.2 h2) h1) (fun h => h.1) (N2 := nstB r d) ?_ (fun h => h.2)
    have := loopB_all (n := n) (d := d) r hb.2 (fun x hx => hs x (by simp [hx])) k (l ++ [s]) mid (by simp at hk; omega) h2
    rwa [List.append_assoc] at this
theorem block_all {b : List St} (hb : stBs b = true) (hs : ∀ s ∈ b, SC s) {d o : Nat} {g g2 : Bs} {ts rest : List Tk} (hr : Hd rest) (hm : MT ((g, s_lb) :: (itB o b ++ [(g2, s_rb)])) ts rest) : ∀ n, Rz (nstB b d) ((pf n).block d ts) (.ok b rest)
  | 0 => .inl rfl
  | n + 1 => by
    obtain ⟨p, ts1, rfl, hm⟩ := hm
    obtain ⟨mid, h1, q, ts2, rfl, h2⟩ := hm.app
    have h2 : ts2 = rest := h2
    subst h2
    have h1 : MT (itB o b) ts1 (⟨s_rb, s_rb, q, 0, 0⟩ :: ts2) := h1
    show Rz _ (blockP (pf n) d (⟨s_lb, s_lb, p, 0, 0⟩ :: ts1)) _
    unfold blockP
    rw [take_kt (b_hd hb h1).1, bind_ok]
    refine Rz.bind (loopB_all (n := n) (d := d) b hb hs (ts1.length + 1) [] ts1 ?_ h1) id (N2 := True) ?_ (fun _ => trivial)
    · have := itB_len b o hb
      rw [h1.len]; omega
    · rw [take_kt hr, bind_ok]
      exact Rz.rfl'
theorem lb_nx {p : Nat} {ts : List Tk} : NX (⟨s_lb, s_lb, p, 0, 0⟩ :: ts) ∧ NS 0 (⟨s_lb, s_lb, p, 0, 0⟩ :: ts) := ⟨⟨_, _, rfl, plain_fine (by decide), show s_lb ≠ s_lp by decide⟩, fun j _ => no_lb j⟩
theorem semi_nx {p : Nat} {ts : List Tk} : NX (⟨s_semi, s_semi, p, 0, 0⟩ :: ts) ∧ NS 0 (⟨s_semi, s_semi, p, 0, 0⟩ :: ts) := ⟨⟨_, _, rfl, plain_fine (by decide), show s_semi ≠ s_lp by decide⟩, fun j _ => no_semi j⟩
theorem ex_then {e : Ex} (hb : exB e = true) (hr : rgE e) {g g2 w : Bs} {l : List It} {ts rest : List Tk} (hm : MT (itE e g ++ (g2, w) :: l) ts rest) (hw : w = s_lb ∨ w = s_semi) : Hd ts ∧ ∃ p ts2, MT l ts2 rest ∧ ∀ n d, Rz (nstE e d) ((pf n).expr 0 d ts) (.ok e (⟨w, w, p, 0, 0⟩ :: ts2)) := by
  obtain ⟨mid, h1, p, ts2, rfl, h2⟩ := hm.app
  refine ⟨(itE_hd e _ _ _ hb hr h1).1, p, ts2, h2, fun n d => ?_⟩
  have ht : tkP (g2, w).2 p = ⟨w, w, p, 0, 0⟩ := by rcases hw with rfl | rfl <;> rfl
  rw [ht] at h1
  have hnx : NX (⟨w, w, p, 0, 0⟩ :: ts2) ∧ NS 0 (⟨w, w, p, 0, 0⟩ :: ts2) := by rcases hw with rfl | rfl; exact lb_nx; exact semi_nx
  exact xc e hb hr n d 0 g ts _ (Nat.zero_le _) (by omega) hnx.1 hnx.2 h1
theorem cc_of {nm : Bs} {e : Ex} {b f : List St} (hB : stB (.mk 4 nm e b f) = true) (hr : rgS (.mk 4 nm e b f)) (hsb : ∀ s ∈ b, SC s) (hsf : ∀ s ∈ f, SC s) (hcf : ∀ s ∈ f, (match s with | .mk kd _ _ _ _ => kd = 4) → CC s) : CC (.mk 4 nm e b f) := by
  intro n d o g ts rest hn hm
  have hc : nm = [] ∧ exB e = true ∧ stBs b = true ∧ stBs f = true := by
    rcases st_cases hB with h | h | h | h | h | h | h | h | h | h <;> first | exact absurd h.1 (by decide) | exact h.2
  obtain ⟨rfl, hbe, hbb, hbf⟩ := hc
  simp only [itS] at hm
  change MT ((g, k_if) :: (itE e [32] ++ ([32], s_lb) :: (itB (o + 1) b ++ (nlT o, s_rb) :: itElse o f (itH o f) (itB (o + 1) f)))) ts rest at hm
  obtain ⟨p, ts1, rfl, hm⟩ := hm
  cases n with
  | zero => exact .inl rfl
  | succ n =>
  have hN : nstS (.mk 4 [] e b f) d = (d ≤ 40 ∧ nstE e d ∧ nstB b (d + 1) ∧ nstB f (d + 1)) := rfl
  rw [hN]
  show Rz _ (choiceP (pf n) d (⟨k_if, k_if, p, 0, 0⟩ :: ts1)) _
  obtain ⟨hh, q, ts2, hm, he⟩ := ex_then hbe hr.1 hm (.inl rfl)
  unfold choiceP
  rw [take_kt hh, bind_ok]
  refine Rz.bind (he n d) (fun h => h.2.1) (N2 := nstB b (d + 1) ∧ nstB f (d + 1)) ?_ (fun h => h.2.2)
  have hm : MT (([32], s_lb) :: ((itB (o + 1) b ++ [(nlT o, s_rb)]) ++ itElse o f (itH o f) (itB (o + 1) f))) (⟨s_lb, s_lb, q, 0, 0⟩ :: ts2) rest := ⟨q, ts2, rfl, by rw [List.append_assoc]; exact hm⟩
  obtain ⟨mid, h1, h2⟩ := MT.app (a := ([32], s_lb) :: (itB (o + 1) b ++ [(nlT o, s_rb)])) hm
  match f, hbf, hr, hsf, hcf, h2 with
  | [], _, _, _, _, h2 =>
    have h2 : mid = rest := h2
    subst h2
    refine Rz.bind (block_all (d := d + 1) hbb hsb hn.1 h1 n) (fun h => h.1) (N2 := True) ?_ (fun _ => trivial)
    rw [if_pos hn.2]
    exact Rz.rfl'
  | .mk kd2 nm2 e2 b2 f2 :: r, hbf, hr, hsf, hcf, h2 =>
    change MT (if r = [] ∧ kd2 = 4 then ([32], k_else) :: itH o (.mk kd2 nm2 e2 b2 f2 :: r) else ([32], k_else) :: ([32], s_lb) :: (itB (o + 1) (.mk kd2 nm2 e2 b2 f2 :: r) ++ [(nlT o, s_rb)])) mid rest at h2
    by_cases hk : r = [] ∧ kd2 = 4
    · rw [if_pos hk] at h2
      obtain ⟨rfl, rfl⟩ := hk
      obtain ⟨p2, ts3, rfl, h3⟩ := h2
      have h3 : MT (itS o (.mk 4 nm2 e2 b2 f2) [32]) ts3 rest := h3
      refine Rz.bind (block_all (d := d + 1) (rest := ⟨k_else, k_else, p2, 0, 0⟩ :: ts3) hbb hsb ⟨_, _, rfl, plain_fine (by decide)⟩ h1 n) (fun h => h.1) (N2 := nstB [.mk 4 nm2 e2 b2 f2] (d + 1)) ?_ (fun h => h.2)
      have hs1 : stB (.mk 4 nm2 e2 b2 f2) = true := by simp only [stBs, Bool.and_eq_true] at hbf; exact hbf.1
      rw [if_neg (show ¬ curK (⟨k_else, k_else, p2, 0, 0⟩ :: ts3) ≠ k_else from fun h => h rfl), step_hd _ (st_hd hs1 h3).1, bind_ok]
      have hif : curK ts3 = k_if := by
        simp only [itS] at h3
        obtain ⟨p3, ts4, rfl, _⟩ : ∃ p3 ts4, ts3 = tkP k_if p3 :: ts4 ∧ True := by
          obtain ⟨p3, ts4, h, _⟩ := h3
          exact ⟨p3, ts4, h, trivial⟩
        rfl
      rw [if_pos hif]
      refine Rz.deep (fun h => h.1.1) (N2 := nstS (.mk 4 nm2 e2 b2 f2) (d + 1)) ?_ (fun h => h.1)
      exact Rz.bind (hcf _ (by simp) rfl n (d + 1) o _ _ _ hn h3) id (N2 := True) Rz.rfl' (fun _ => trivial)
    · rw [if_neg hk] at h2
      obtain ⟨p2, ts3, rfl, h3⟩ := h2
      refine Rz.bind (block_all (d := d + 1) (rest := ⟨k_else, k_else, p2, 0, 0⟩ :: ts3) hbb hsb ⟨_, _, rfl, plain_fine (by decide)⟩ h1 n) (fun h => h.1) (N2 := nstB (.mk kd2 nm2 e2 b2 f2 :: r) (d + 1)) ?_ (fun h => h.2)
      have hlb : ∃ p3 ts4, ts3 = ⟨s_lb, s_lb, p3, 0, 0⟩ :: ts4 := by obtain ⟨p3, ts4, h, _⟩ := h3; exact ⟨p3, ts4, h⟩
      have hh3 : Hd ts3 ∧ curK ts3 ≠ k_if := by
        obtain ⟨p3, ts4, rfl⟩ := hlb
        exact ⟨⟨_, _, rfl, plain_fine (by decide)⟩, by show s_lb ≠ k_if; decide⟩
      rw [if_neg (show ¬ curK (⟨k_else, k_else, p2, 0, 0⟩ :: ts3) ≠ k_else from fun h => h rfl), step_hd _ hh3.1, bind_ok, if_neg hh3.2]
      exact Rz.bind (block_all (d := d + 1) hbf hsf hn.1 h3 n) id (N2 := True) Rz.rfl' (fun _ => trivial)
end Go.Tx
namespace Go.Tx
theorem plain_st {n d p : Nat} {ts rest : List Tk} {s : St} {N2 : Prop} (hk : SN (curK ts)) (h1 : curK ts ≠ k_if) (h2 : curK ts ≠ k_while) (hr : Hd rest) (h : Rz N2 (plainP (pf n) d ts) (.ok s (⟨s_semi, s_semi, p, 0, 0⟩ :: rest))) {N : Prop} (hN : N → d ≤ 40 ∧ N2) : Rz N (stmtP (pf n) d ts) (.ok s rest) := by
  unfold stmtP
  rw [if_pos hk.2.2.2.2]
  refine Rz.deep (fun h => (hN h).1) (N2 := N2) ?_ (fun h => (hN h).2)
  rw [if_neg h1, if_neg h2]
  refine Rz.bind h id (N2 := True) ?_ (fun _ => trivial)
  rw [take_kt hr, bind_ok]
  exact Rz.rfl'
theorem nm_hd {s : Bs} {p : Nat} {r : List Tk} : Hd (⟨k_name, s, p, 0, 0⟩ :: r) := ⟨_, _, rfl, plain_fine (by decide)⟩
theorem asg_hd {p : Nat} {r : List Tk} : Hd (⟨s_asg, s_asg, p, 0, 0⟩ :: r) := ⟨_, _, rfl, plain_fine (by decide)⟩
theorem semi_hd {p : Nat} {r : List Tk} : Hd (⟨s_semi, s_semi, p, 0, 0⟩ :: r) := ⟨_, _, rfl, plain_fine (by decide)⟩
theorem lp_hd {p : Nat} {r : List Tk} : Hd (⟨s_lp, s_lp, p, 0, 0⟩ :: r) := ⟨_, _, rfl, plain_fine (by decide)⟩
theorem call_of {e : Ex} (h : isCall e = true) (hb : exB e = true) : ∃ f l, e = .mk 5 0 0 f [] l ∧ isNameB f = true ∧ exBs l = true := by
  obtain ⟨kd, o, n, nm, cb, ks⟩ := e
  simp [isCall] at h
  subst h
  simp only [exB, Bool.and_eq_true] at hb
  obtain ⟨h1, h2⟩ := hb
  simp [hdB] at h2
  obtain ⟨⟨⟨rfl, rfl⟩, rfl⟩, h⟩ := h2
  exact ⟨_, _, rfl, h, h1⟩
theorem sc_of {kd : Int} {nm : Bs} {e : Ex} {b f : List St} (hB : stB (.mk kd nm e b f) = true) (hr : rgS (.mk kd nm e b f)) (hsb : ∀ s ∈ b, SC s) (hsf : ∀ s ∈ f, SC s) (hcf : ∀ s ∈ f, (match s with | .mk kd _ _ _ _ => kd = 4) → CC s) : SC (.mk kd nm e b f) := by
  intro n d o g ts rest hn hm
  have hst := st_hd hB hm
  have hcs := st_cases hB
  simp only [itS] at hm
  rcases hcs with h | h | h | h | h | h | h | h | h | h
  · obtain ⟨rfl, hnm, hbe, rfl, rfl⟩ := h
    change MT ((g, k_let) :: ([32], nm) :: ([32], s_asg) :: (itE e [32] ++ [([], s_semi)])) ts rest at hm
    obtain ⟨p1, ts1, rfl, p2, ts2, rfl, p3, ts3, rfl, hm⟩ := hm
    obtain ⟨hh, q, ts4, h4, he⟩ := ex_then hbe hr.1 hm (.inr rfl)
    have h4 : ts4 = rest := h4
    subst h4
    rw [name_tk hnm] at hst ⊢
    refine plain_st (N2 := nstE e d) hst.2 (show k_let ≠ k_if by decide) (show k_let ≠ k_while by decide) hn.1 (p := q) ?_ (fun h => ⟨h.1, h.2.1⟩)
    show Rz _ (plainP (pf n) d (⟨k_let, k_let, p1, 0, 0⟩ :: ⟨k_name, nm, p2, 0, 0⟩ :: ⟨s_asg, s_asg, p3, 0, 0⟩ :: ts3)) _
    unfold plainP
    rw [step_hd _ nm_hd, bind_ok, ck]
    dsimp only
    rw [if_neg (by decide), if_neg (by decide), if_neg (by decide), if_neg (by decide), if_neg (by decide), if_neg (by decide), if_pos rfl, take_kt asg_hd, bind_ok, take_kt hh, bind_ok]
    exact Rz.bind (he n d) id (N2 := True) Rz.rfl' (fun _ => trivial)
  · obtain ⟨rfl, hnm, hbe, rfl, rfl⟩ := h
    change MT ((g, nm) :: ([32], s_asg) :: (itE e [32] ++ [([], s_semi)])) ts rest at hm
    obtain ⟨p2, ts2, rfl, p3, ts3, rfl, hm⟩ := hm
    obtain ⟨hh, q, ts4, h4, he⟩ := ex_then hbe hr.1 hm (.inr rfl)
    have h4 : ts4 = rest := h4
    subst h4
    rw [name_tk hnm] at hst ⊢
    refine plain_st (N2 := nstE e d) hst.2 (show k_name ≠ k_if by decide) (show k_name ≠ k_while by decide) hn.1 (p := q) ?_ (fun h => ⟨h.1, h.2.1⟩)
    show Rz _ (plainP (pf n) d (⟨k_name, nm, p2, 0, 0⟩ :: ⟨s_asg, s_asg, p3, 0, 0⟩ :: ts3)) _
    unfold plainP
    rw [step_hd _ asg_hd, bind_ok, ck, ct]
    dsimp only
    rw [if_neg (by decide), if_neg (by decide), if_neg (by decide), if_neg (by decide), if_neg (by decide), if_neg (by decide), if_neg (by decide), take_kt hh, bind_ok]
    exact Rz.bind (he n d) id (N2 := True) Rz.rfl' (fun _ => trivial)
  · obtain ⟨rfl, hnm, hc, hbe, rfl, rfl⟩ := h
    obtain ⟨fn, l, rfl, hfn, hbl⟩ := call_of hc hbe
    change MT ((g, k_spawn) :: ([32], nm) :: ([32], s_asg) :: ([32], fn) :: ([], s_lp) :: ((itArgs (itEs l) ++ [([], s_rp)]) ++ [([], s_semi)])) ts rest at hm
    obtain ⟨p1, ts1, rfl, p2, ts2, rfl, p3, ts3, rfl, p4, ts4, rfl, p5, ts5, rfl, hm⟩ := hm
    obtain ⟨mid, h1, q, ts6, rfl, h4⟩ := hm.app
    have h4 : ts6 = rest := h4
    subst h4
    have hK := kd_of hbl hr.1.2
    rw [name_tk hnm, name_tk hfn] at hst ⊢
    have hh := args_hd hK h1
    refine plain_st (N2 := ∀ r ∈ nstEs l, r d) hst.2 (show k_spawn ≠ k_if by decide) (show k_spawn ≠ k_while by decide) hn.1 (p := q) ?_ (fun h => ⟨h.1, h.2.1⟩)
    show Rz _ (plainP (pf n) d (⟨k_spawn, k_spawn, p1, 0, 0⟩ :: ⟨k_name, nm, p2, 0, 0⟩ :: ⟨s_asg, s_asg, p3, 0, 0⟩ :: ⟨k_name, fn, p4, 0, 0⟩ :: ⟨s_lp, s_lp, p5, 0, 0⟩ :: ts5)) _
    unfold plainP
    rw [step_hd _ nm_hd, bind_ok, ck]
    dsimp only
    rw [if_neg (by decide), if_neg (by decide), if_neg (by decide), if_neg (by decide), if_neg (by decide), if_pos rfl, take_kt asg_hd, bind_ok, take_kt nm_hd, bind_ok, take_kt lp_hd, bind_ok, take_kt hh, bind_ok]
    refine Rz.bind (args_all l hK _ _ _ ?_ semi_hd h1) id (N2 := True) Rz.rfl' (fun _ => trivial)
    have h3 := args_len l
    rw [h1.len, List.length_append]
    simp; omega
  · obtain ⟨rfl, rfl, rfl, rfl, rfl⟩ := h
    change MT [(g, k_sync), ([], s_semi)] ts rest at hm
    obtain ⟨p1, ts1, rfl, q, ts2, rfl, rfl⟩ := hm
    refine plain_st (N2 := True) hst.2 (show k_sync ≠ k_if by decide) (show k_sync ≠ k_while by decide) hn.1 (p := q) ?_ (fun h => ⟨h.1, trivial⟩)
    show Rz _ (plainP (pf n) d (⟨k_sync, k_sync, p1, 0, 0⟩ :: ⟨s_semi, s_semi, q, 0, 0⟩ :: ts2)) _
    unfold plainP
    rw [step_hd _ semi_hd, bind_ok, ck]
    exact Rz.rfl'
  · obtain ⟨rfl, rfl, rfl, rfl, rfl⟩ := h
    change MT [(g, k_break), ([], s_semi)] ts rest at hm
    obtain ⟨p1, ts1, rfl, q, ts2, rfl, rfl⟩ := hm
    refine plain_st (N2 := True) hst.2 (show k_break ≠ k_if by decide) (show k_break ≠ k_while by decide) hn.1 (p := q) ?_ (fun h => ⟨h.1, trivial⟩)
    show Rz _ (plainP (pf n) d (⟨k_break, k_break, p1, 0, 0⟩ :: ⟨s_semi, s_semi, q, 0, 0⟩ :: ts2)) _
    unfold plainP
    rw [step_hd _ semi_hd, bind_ok, ck]
    exact Rz.rfl'
  · obtain ⟨rfl, rfl, rfl, rfl, rfl⟩ := h
    change MT [(g, k_continue), ([], s_semi)] ts rest at hm
    obtain ⟨p1, ts1, rfl, q, ts2, rfl, rfl⟩ := hm
    refine plain_st (N2 := True) hst.2 (show k_continue ≠ k_if by decide) (show k_continue ≠ k_while by decide) hn.1 (p := q) ?_ (fun h => ⟨h.1, trivial⟩)
    show Rz _ (plainP (pf n) d (⟨k_continue, k_continue, p1, 0, 0⟩ :: ⟨s_semi, s_semi, q, 0, 0⟩ :: ts2)) _
    unfold plainP
    rw [step_hd _ semi_hd, bind_ok, ck]
    exact Rz.rfl'
  · obtain ⟨rfl, rfl, hbe, rfl, rfl⟩ := h
    change MT ((g, k_do) :: (itE e [32] ++ [([], s_semi)])) ts rest at hm
    obtain ⟨p1, ts1, rfl, hm⟩ := hm
    obtain ⟨hh, q, ts4, h4, he⟩ := ex_then hbe hr.1 hm (.inr rfl)
    have h4 : ts4 = rest := h4
    subst h4
    refine plain_st (N2 := nstE e d) hst.2 (show k_do ≠ k_if by decide) (show k_do ≠ k_while by decide) hn.1 (p := q) ?_ (fun h => ⟨h.1, h.2.1⟩)
    show Rz _ (plainP (pf n) d (⟨k_do, k_do, p1, 0, 0⟩ :: ts1)) _
    unfold plainP
    rw [step_hd _ hh, bind_ok, ck]
    dsimp only
    rw [if_neg (by decide), if_neg (by decide), if_neg (by decide), if_pos rfl]
    exact Rz.bind (he n d) id (N2 := True) Rz.rfl' (fun _ => trivial)
  · obtain ⟨rfl, rfl, hbe, rfl, rfl⟩ := h
    change MT ((g, k_return) :: (itE e [32] ++ [([], s_semi)])) ts rest at hm
    obtain ⟨p1, ts1, rfl, hm⟩ := hm
    obtain ⟨hh, q, ts4, h4, he⟩ := ex_then hbe hr.1 hm (.inr rfl)
    have h4 : ts4 = rest := h4
    subst h4
    refine plain_st (N2 := nstE e d) hst.2 (show k_return ≠ k_if by decide) (show k_return ≠ k_while by decide) hn.1 (p := q) ?_ (fun h => ⟨h.1, h.2.1⟩)
    show Rz _ (plainP (pf n) d (⟨k_return, k_return, p1, 0, 0⟩ :: ts1)) _
    unfold plainP
    rw [step_hd _ hh, bind_ok, ck]
    dsimp only
    rw [if_neg (by decide), if_neg (by decide), if_neg (by decide), if_neg (by decide), if_pos rfl]
    exact Rz.bind (he n d) id (N2 := True) Rz.rfl' (fun _ => trivial)
  · obtain ⟨rfl, rfl, hbe, hbb, rfl⟩ := h
    change MT ((g, k_while) :: (itE e [32] ++ ([32], s_lb) :: (itB (o + 1) b ++ [(nlT o, s_rb)]))) ts rest at hm
    obtain ⟨p1, ts1, rfl, hm⟩ := hm
    obtain ⟨hh, q, ts4, h4, he⟩ := ex_then hbe hr.1 hm (.inl rfl)
    have h5 : MT (([32], s_lb) :: (itB (o + 1) b ++ [(nlT o, s_rb)])) (⟨s_lb, s_lb, q, 0, 0⟩ :: ts4) rest := ⟨q, ts4, rfl, h4⟩
    show Rz (d ≤ 40 ∧ nstE e d ∧ nstB b (d + 1) ∧ nstB [] (d + 1)) (stmtP (pf n) d (⟨k_while, k_while, p1, 0, 0⟩ :: ts1)) _
    unfold stmtP
    rw [if_pos (show beginsB (curK (⟨k_while, k_while, p1, 0, 0⟩ :: ts1)) = true from hst.2.2.2.2.2)]
    refine Rz.deep (fun h => h.1) (N2 := nstE e d ∧ nstB b (d + 1)) ?_ (fun h => ⟨h.2.1, h.2.2.1⟩)
    rw [ck]
    dsimp only
    rw [if_neg (by decide), if_pos rfl, step_hd _ hh, bind_ok]
    refine Rz.bind (he n d) (fun h => h.1) (N2 := nstB b (d + 1)) ?_ (fun h => h.2)
    exact Rz.bind (block_all (d := d + 1) hbb hsb hn.1 h5 n) id (N2 := True) Rz.rfl' (fun _ => trivial)
  · obtain ⟨rfl, hnm, hbe, hbb, hbf⟩ := h
    have hm2 : MT (itS o (.mk 4 nm e b f) g) ts rest := by simp only [itS]; exact hm
    have hcc := cc_of hB hr hsb hsf hcf n d o g ts rest hn hm2
    have hif : curK ts = k_if := by
      obtain ⟨p3, ts4, h, _⟩ := hm
      rw [h]; rfl
    unfold stmtP
    rw [if_pos hst.2.2.2.2.2]
    refine Rz.deep (fun h => h.1) (N2 := nstS (.mk 4 nm e b f) d) ?_ id
    rw [if_pos hif]
    exact hcc
theorem stB_of : ∀ {b : List St} {s : St}, stBs b = true → s ∈ b → stB s = true
  | x :: r, s, h, hs => by
    simp only [stBs, Bool.and_eq_true] at h
    rcases List.mem_cons.1 hs with rfl | hs
    · exact h.1
    · exact stB_of h.2 hs
theorem rgS_of : ∀ {b : List St} {s : St}, rgSs b → s ∈ b → rgS s
  | x :: r, s, h, hs => by
    rcases List.mem_cons.1 hs with rfl | hs
    · exact h.1
    · exact rgS_of h.2 hs
theorem nS_of : ∀ {b : List St} {s : St}, s ∈ b → nS s ≤ nSs b
  | x :: r, s, hs => by
    simp only [nSs]
    rcases List.mem_cons.1 hs with rfl | hs
    · omega
    · have := nS_of hs; omega
theorem st_bodies {kd : Int} {nm : Bs} {e : Ex} {b f : List St} (h : stB (.mk kd nm e b f) = true) : stBs b = true ∧ stBs f = true := by
  rcases st_cases h with h | h | h | h | h | h | h | h | h | h
  · rw [h.2.2.2.1, h.2.2.2.2]; exact ⟨rfl, rfl⟩
  · rw [h.2.2.2.1, h.2.2.2.2]; exact ⟨rfl, rfl⟩
  · rw [h.2.2.2.2.1, h.2.2.2.2.2]; exact ⟨rfl, rfl⟩
  · rw [h.2.2.2.1, h.2.2.2.2]; exact ⟨rfl, rfl⟩
  · rw [h.2.2.2.1, h.2.2.2.2]; exact ⟨rfl, rfl⟩
  · rw [h.2.2.2.1, h.2.2.2.2]; exact ⟨rfl, rfl⟩
  · rw [h.2.2.2.1, h.2.2.2.2]; exact ⟨rfl, rfl⟩
  · rw [h.2.2.2.1, h.2.2.2.2]; exact ⟨rfl, rfl⟩
  · rw [h.2.2.2.2]; exact ⟨h.2.2.2.1, rfl⟩
  · exact ⟨h.2.2.2.1, h.2.2.2.2⟩
theorem sc_all : ∀ (m : Nat) (s : St), nS s ≤ m → stB s = true → rgS s → SC s ∧ ((match s with | .mk kd _ _ _ _ => kd = 4) → CC s)
  | 0, .mk kd nm e b f, h, _, _ => by simp only [nS] at h; omega
  | m + 1, .mk kd nm e b f, h, hB, hr => by
    simp only [nS] at h
    have hbf := st_bodies hB
    have hb : ∀ s ∈ b, SC s := fun s hs => (sc_all m s (by have := nS_of hs; omega) (stB_of hbf.1 hs) (rgS_of hr.2.1 hs)).1
    have hf : ∀ s ∈ f, SC s ∧ ((match s with | .mk kd _ _ _ _ => kd = 4) → CC s) := fun s hs => sc_all m s (by have := nS_of hs; omega) (stB_of hbf.2 hs) (rgS_of hr.2.2 hs)
    refine ⟨sc_of hB hr hb (fun s hs => (hf s hs).1) (fun s hs => (hf s hs).2), fun hk => ?_⟩
    have hk : kd = 4 := hk
    subst hk
    exact cc_of hB hr hb (fun s hs => (hf s hs).1) (fun s hs => (hf s hs).2)
theorem sc_body {b : List St} (hb : stBs b = true) (hr : rgSs b) : ∀ s ∈ b, SC s := fun s hs => (sc_all (nS s) s (Nat.le_refl _) (stB_of hb hs) (rgS_of hr hs)).1
end Go.Tx
namespace Go.Tx
theorem comma_hd {p : Nat} {r : List Tk} : Hd (⟨s_comma, s_comma, p, 0, 0⟩ :: r) := ⟨_, _, rfl, plain_fine (by decide)⟩
theorem rp_hd {p : Nat} {r : List Tk} : Hd (⟨s_rp, s_rp, p, 0, 0⟩ :: r) := ⟨_, _, rfl, plain_fine (by decide)⟩
theorem lb_hd {p : Nat} {r : List Tk} : Hd (⟨s_lb, s_lb, p, 0, 0⟩ :: r) := ⟨_, _, rfl, plain_fine (by decide)⟩
theorem ps_hd {ps : List Bs} {ts rest : List Tk} {q : Nat} (hm : MT (itRest (itP ps)) ts (⟨s_rp, s_rp, q, 0, 0⟩ :: rest)) : Hd ts := by
  cases ps with
  | nil => rw [show ts = _ from hm]; exact rp_hd
  | cons x r =>
    obtain ⟨p, ts', rfl, _⟩ := hm
    exact comma_hd
theorem names_rest {q : Nat} {rest : List Tk} : ∀ (ps : List Bs), (ps.all isNameB) = true → ∀ k l ts, l.length ≠ 0 → ps.length < k → MT (itRest (itP ps)) ts (⟨s_rp, s_rp, q, 0, 0⟩ :: rest) → loopN k l ts = .ok (l ++ ps) (⟨s_rp, s_rp, q, 0, 0⟩ :: rest)
  | [], _, k, l, ts, hl, hk, hm => by
    rw [show ts = _ from hm]
    obtain ⟨k, rfl⟩ : ∃ k', k = k' + 1 := ⟨k - 1, by simp at hk; omega⟩
    unfold loopN
    rw [if_pos (show curK (⟨s_rp, s_rp, q, 0, 0⟩ :: rest) = s_rp from rfl), List.append_nil]
  | x :: r, hb, k, l, ts, hl, hk, hm => by
    simp only [List.all_cons, Bool.and_eq_true] at hb
    obtain ⟨p, ts1, rfl, p2, ts2, rfl, hm⟩ : ∃ p ts1, ts = ⟨s_comma, s_comma, p, 0, 0⟩ :: ts1 ∧ ∃ p2 ts2, ts1 = tkP x p2 :: ts2 ∧ MT (itRest (itP r)) ts2 (⟨s_rp, s_rp, q, 0, 0⟩ :: rest) := hm
    obtain ⟨k, rfl⟩ : ∃ k', k = k' + 1 := ⟨k - 1, by simp at hk; omega⟩
    rw [name_tk hb.1]
    unfold loopN
    rw [if_neg (show ¬ curK (⟨s_comma, s_comma, p, 0, 0⟩ :: ⟨k_name, x, p2, 0, 0⟩ :: ts2) = s_rp by show ¬ s_comma = s_rp; decide), if_pos hl, take_kt nm_hd, bind_ok, bind_ok, take_kt (ps_hd hm), bind_ok]
    have := names_rest (q := q) (rest := rest) r hb.2 k (l ++ [x]) ts2 (by simp) (by simp at hk; omega) hm
    rw [this, List.append_assoc]; rfl
theorem names_all {q : Nat} {ps : List Bs} {ts rest : List Tk} (hb : (ps.all isNameB) = true) {k : Nat} (hk : ps.length < k) (hm : MT (itArgs (itP ps)) ts (⟨s_rp, s_rp, q, 0, 0⟩ :: rest)) : loopN k [] ts = .ok ps (⟨s_rp, s_rp, q, 0, 0⟩ :: rest) ∧ Hd ts := by
  obtain ⟨k, rfl⟩ : ∃ k', k = k' + 1 := ⟨k - 1, by omega⟩
  cases ps with
  | nil =>
    rw [show ts = _ from hm]
    refine ⟨?_, rp_hd⟩
    unfold loopN
    rw [if_pos (show curK (⟨s_rp, s_rp, q, 0, 0⟩ :: rest) = s_rp from rfl)]
  | cons x r =>
    simp only [List.all_cons, Bool.and_eq_true] at hb
    obtain ⟨p2, ts2, rfl, hm⟩ : ∃ p2 ts2, ts = tkP x p2 :: ts2 ∧ MT (itRest (itP r)) ts2 (⟨s_rp, s_rp, q, 0, 0⟩ :: rest) := hm
    rw [name_tk hb.1]
    refine ⟨?_, nm_hd⟩
    unfold loopN
    rw [if_neg (show ¬ curK (⟨k_name, x, p2, 0, 0⟩ :: ts2) = s_rp by show ¬ k_name = s_rp; decide), if_neg (by simp), bind_ok, take_kt (ps_hd hm), bind_ok]
    have := names_rest (q := q) (rest := rest) r hb.2 k ([] ++ [x]) ts2 (by simp) (by simp at hk; omega) hm
    rw [this]; rfl
theorem itP_len (ps : List Bs) : ps.length ≤ (itArgs (itP ps)).length + 1 := by
  cases ps with
  | nil => simp
  | cons e r =>
    simp only [itP, List.map_cons, itArgs, List.length_cons, List.length_append]
    have := itRest_len (itP r)
    simp only [itP, List.length_map] at this
    omega
theorem f_all {f : Fnc} (hb : fnB f = true) (hr : rgSs f.body) {g : Bs} {ts rest : List Tk} (hn : Hd rest) (hm : MT (itF f g) ts rest) (n : Nat) : Hd ts ∧ curK ts = k_fn ∧ rest.length < ts.length ∧ Rz (nstB f.body 1) (functionP (pf n) ts) (.ok f rest) := by
  simp only [fnB, Bool.and_eq_true] at hb
  have hlen := hm.len
  unfold itF at hm
  obtain ⟨p1, ts1, rfl, p2, ts2, rfl, p3, ts3, rfl, hm⟩ := hm
  obtain ⟨mid, h1, p4, ts4, rfl, h2⟩ := hm.app
  have h1 : MT (itArgs (itP f.params)) ts3 (⟨s_rp, s_rp, p4, 0, 0⟩ :: ts4) := h1
  refine ⟨⟨_, _, rfl, plain_fine (k := k_fn) (by decide)⟩, rfl, by rw [hlen]; simp [itF], ?_⟩
  rw [name_tk hb.1.1]
  obtain ⟨h3, h4⟩ := names_all (k := ts3.length + 1) hb.1.2 (by have := itP_len f.params; rw [h1.len]; simp; omega) h1
  have hlb : Hd ts4 := by
    obtain ⟨p5, ts5, rfl, _⟩ := h2
    exact lb_hd
  show Rz _ (functionP (pf n) (⟨k_fn, k_fn, p1, 0, 0⟩ :: ⟨k_name, f.name, p2, 0, 0⟩ :: ⟨s_lp, s_lp, p3, 0, 0⟩ :: ts3)) _
  unfold functionP
  rw [take_kt nm_hd, bind_ok, take_kt lp_hd, bind_ok, take_kt h4, bind_ok, h3, bind_ok, take_kt hlb, bind_ok]
  exact Rz.bind (block_all (d := 1) hb.2 (sc_body hb.2 hr) hn h2 n) id (N2 := True) Rz.rfl' (fun _ => trivial)
def EndT (e : Tk) : Prop := e.kind = k_end ∧ e.err = 0
theorem l_hd {fs : List Fnc} (hb : (fs.all fnB) = true) {g : Bs} {ts : List Tk} {e : Tk} (he : EndT e) (hm : MT (itL fs g) ts [e]) : Hd ts := by
  cases fs with
  | nil => rw [show ts = _ from hm]; exact ⟨_, _, rfl, he.2, fun h => by rw [he.1] at h; exact absurd h.1 (by decide)⟩
  | cons f r =>
    simp only [itL] at hm
    obtain ⟨mid, ⟨p, ts1, rfl, _⟩, _⟩ := hm.app
    exact ⟨_, _, rfl, plain_fine (k := k_fn) (by decide)⟩
theorem loopF_all {e : Tk} (he : EndT e) {n : Nat} : ∀ (fs : List Fnc), (fs.all fnB) = true → (∀ f ∈ fs, rgSs f.body) → ∀ k l g ts, ts.length ≤ k → MT (itL fs g) ts [e] → Rz (∀ f ∈ fs, nstB f.body 1) (loopF (pf n) k l ts) (.ok (l ++ fs) [e])
  | [], _, _, k, l, g, ts, hk, hm => by
    rw [show ts = [e] from hm] at hk ⊢
    obtain ⟨k, rfl⟩ : ∃ k', k = k' + 1 := ⟨k - 1, by simp at hk; omega⟩
    unfold loopF
    rw [if_pos (show curK [e] = k_end from he.1), List.append_nil]
    exact Rz.rfl'
  | f :: r, hb, hr, k, l, g, ts, hk, hm => by
    simp only [List.all_cons, Bool.and_eq_true] at hb
    simp only [itL] at hm
    obtain ⟨mid, h1, h2⟩ := hm.app
    obtain ⟨_, h4, h5, h6⟩ := f_all hb.1 (hr f (by simp)) (l_hd hb.2 he h2) h1 n
    obtain ⟨k, rfl⟩ : ∃ k', k = k' + 1 := ⟨k - 1, by omega⟩
    unfold loopF
    rw [if_neg (by rw [h4]; decide)]
    refine Rz.bind h6 (fun h => h f (by simp)) (N2 := ∀ f ∈ r, nstB f.body 1) ?_ (fun h x hx => h x (by simp [hx]))
    have := loopF_all he (n := n) r hb.2 (fun x hx => hr x (by simp [hx])) k (l ++ [f]) _ mid (by omega) h2
    rwa [List.append_assoc] at this
theorem parse_of {fs : List Fnc} (hb : treeB fs = true) (hr : ∀ f ∈ fs, rgSs f.body) {g l : Bs} {e : Tk} (he : EndT e) (hm : MT (itL fs g) (words l (l.length + 1) 0) [e]) (fuel : Nat) : Rz (∀ f ∈ fs, nstB f.body 1) (parseP l fuel) (.ok fs [e]) := by
  simp only [treeB, Bool.and_eq_true, decide_eq_true_eq] at hb
  unfold parseP
  rw [step_hd _ (l_hd hb.2 he hm), bind_ok]
  match fs, hb, hr, hm with
  | [], hb, _, _ => exact absurd rfl hb.1
  | f :: r, hb, hr, hm =>
    obtain ⟨_, hb⟩ := hb
    simp only [List.all_cons, Bool.and_eq_true] at hb
    simp only [itL] at hm
    obtain ⟨mid, h1, h2⟩ := hm.app
    obtain ⟨_, h4, h5, h6⟩ := f_all hb.1 (hr f (by simp)) (l_hd hb.2 he h2) h1 fuel
    refine Rz.bind h6 (fun h => h f (by simp)) (N2 := ∀ f ∈ r, nstB f.body 1) ?_ (fun h x hx => h x (by simp [hx]))
    exact loopF_all he (n := fuel) r hb.2 (fun x hx => hr x (by simp [hx])) (mid.length + 1) [f] _ mid (by omega) h2
end Go.Tx
namespace Go.Tx
structure GapOk (g : Bs) : Prop where
  skip : ∀ r p, skp false (g ++ r) p = skp false r (p + g.length)
  hd : ∀ c r, g = c :: r → blank c = true
theorem GapOk.nil : GapOk [] := ⟨fun r p => rfl, fun c r h => by cases h⟩
theorem GapOk.blanks {g : Bs} (h : ∀ c ∈ g, blank c = true) : GapOk g := by
  refine ⟨?_, fun c r hg => h c (by rw [hg]; simp)⟩
  induction g with
  | nil => intro r p; rfl
  | cons c g ih =>
    intro r p
    rw [List.cons_append, skp, if_pos (h c (by simp)), ih (fun x hx => h x (by simp [hx])), List.length_cons]
    congr 1; omega
theorem GapOk.app {a b : Bs} (ha : GapOk a) (hb : GapOk b) : GapOk (a ++ b) := by
  refine ⟨fun r p => ?_, fun c r h => ?_⟩
  · rw [List.append_assoc, ha.skip, hb.skip, List.length_append]; congr 1; omega
  · cases a with
    | nil => exact hb.hd c r h
    | cons x a =>
      have : x = c := by simpa using (List.cons.inj h).1
      exact this ▸ ha.hd x a rfl
def Fol (r : Bs) (o : Option UInt8) : Prop := match o with
  | none => ∀ c r', r = c :: r' → blank c = true
  | some c => ∃ r', r = c :: r'
def sgSafe (w : Bs) (c : UInt8) : Prop := w = s_lp ∨ w = s_rp ∨ w = s_lb ∨ w = s_rb ∨ w = s_comma ∨ w = s_semi ∨ w = s_minus ∨ (w = s_bang ∧ c ≠ 61)
def Wn (w : Bs) : Prop := isNameB w = true ∨ w ∈ keywords
def Ad (w : Bs) (o : Option UInt8) : Prop := (Wn w ∧ ∀ c, o = some c → alnum c = false) ∨ ((∃ m, w = Go.Lib.decDigits m ∧ m ≤ 9223372036854775808) ∧ ∀ c, o = some c → digit c = false) ∨ (w ∈ signs ∧ ∀ c, o = some c → sgSafe w c)
theorem span_all {f : UInt8 → Bool} {r : Bs} : ∀ {w : Bs}, (∀ c ∈ w, f c = true) → (∀ c r', r = c :: r' → f c = false) → spanN f (w ++ r) = w.length
  | [], _, h => by
    cases r with
    | nil => rfl
    | cons c r => rw [List.nil_append, spanN, if_neg (by rw [h c r rfl]; simp)]; rfl
  | c :: w, hw, h => by
    rw [List.cons_append, spanN, if_pos (hw c (by simp)), span_all (fun x hx => hw x (by simp [hx])) h]; rfl
theorem wn_shape {w : Bs} (h : Wn w) : ∃ c r, w = c :: r ∧ letter c = true ∧ ∀ x ∈ w, alnum x = true := by
  rcases h with h | h
  · unfold isNameB at h
    simp only [Bool.and_eq_true, Bool.not_eq_true', Bool.or_eq_false_iff, decide_eq_false_iff_not, List.all_eq_true, List.mem_range] at h
    obtain ⟨⟨⟨h1, h2⟩, h3⟩, h4⟩ := h
    match w, h1 with
    | c :: r, _ =>
      refine ⟨c, r, rfl, by simpa [nmB] using h4 0 (by simp), fun x hx => ?_⟩
      obtain ⟨i, hi, rfl⟩ := List.mem_iff_getElem.1 hx
      have := h4 i hi
      rw [List.getElem?_eq_getElem hi, Option.getD_some] at this
      unfold nmB at this
      unfold alnum
      simp only [Bool.or_eq_true, Bool.and_eq_true] at this ⊢
      rcases this with this | this
      · exact .inl this
      · exact .inr this.2
  · have key : ∀ w ∈ keywords, (match w with | [] => false | c :: _ => letter c) = true ∧ w.all alnum = true := by decide
    obtain ⟨h1, h2⟩ := key w h
    match w, h1, h2 with
    | c :: r, h1, h2 => exact ⟨c, r, rfl, h1, List.all_eq_true.1 h2⟩
theorem blank_no {c : UInt8} (h : blank c = true) : alnum c = false ∧ digit c = false ∧ c.toNat ≠ 47 := by
  unfold blank at h
  simp only [decide_eq_true_eq] at h
  unfold alnum letter digit
  simp only [Bool.or_eq_false_iff, decide_eq_false_iff_not]
  omega
theorem letter_no {c : UInt8} (h : alnum c = true) : blank c = false ∧ c.toNat ≠ 47 := by
  unfold alnum letter digit at h
  unfold blank
  simp only [Bool.or_eq_true, decide_eq_true_eq] at h
  simp only [decide_eq_false_iff_not]
  omega
theorem stop_c {c : UInt8} {r : Bs} (h1 : blank c = false) (h2 : c.toNat = 47 → ∀ d r', r = d :: r' → d.toNat ≠ 47) (p : Nat) : skp false (c :: r) p = p := by
  rw [skp, if_neg (by rw [h1]; simp), if_neg]
  rintro ⟨h3, h4⟩
  cases r with
  | nil => simp at h4
  | cons d r => exact h2 h3 d r rfl (by simpa using h4)
theorem sign_two (x : Bs) : signAt x = signAt (x.take 2) := by
  unfold signAt
  refine find_congr fun t ht => ?_
  have : ∀ t ∈ signs, t.length ≤ 2 := by decide
  have := this t ht
  rw [List.take_take, Nat.min_eq_left this]
theorem take_two {w : Bs} {c : UInt8} {r : Bs} (h : w ≠ []) : (w ++ c :: r).take 2 = (w ++ [c]).take 2 := by
  match w, h with
  | [a], _ => rfl
  | a :: b :: w, _ => rfl
theorem sign_ad {w r : Bs} {o : Option UInt8} (hw : w ∈ signs) (ho : ∀ c, o = some c → sgSafe w c) (hf : Fol r o) : signAt (w ++ r) = some w := by
  have hne : ∀ w ∈ signs, w ≠ [] := by decide
  have hbl : ∀ c, blank c = true → signAt ((w ++ [c]).take 2) = some w := fun c hc => by
    have key : ∀ w ∈ signs, ∀ c ∈ [(32 : UInt8), 9, 10, 13], signAt ((w ++ [c]).take 2) = some w := by decide
    refine key w hw c ?_
    unfold blank at hc
    simp only [decide_eq_true_eq] at hc
    have e : c = UInt8.ofNat c.toNat := by simp
    rw [e]
    rcases hc with h | h | h | h <;> rw [h] <;> decide
  cases o with
  | none =>
    cases r with
    | nil =>
      rw [List.append_nil]
      have key : ∀ w ∈ signs, signAt w = some w := by decide
      exact key w hw
    | cons c r => rw [sign_two, take_two (hne w hw)]; exact hbl c (hf c r rfl)
  | some c =>
    obtain ⟨r', rfl⟩ := hf
    rw [sign_two, take_two (hne w hw)]
    rcases ho c rfl with h | h | h | h | h | h | h | ⟨h, h2⟩ <;> subst h
    · rfl
    · rfl
    · rfl
    · rfl
    · rfl
    · rfl
    · rfl
    · show signAt [33, c] = some [33]
      simp [signAt, signs, s_shl, s_shr, s_le, s_eqq, s_neq, s_andd, s_orr, s_lp, s_rp, s_lb, s_rb, s_comma, s_semi, s_asg, s_plus, s_minus, s_star, s_slash, s_pct, s_amp, s_bar, s_xor, s_lt, s_bang, h2]
theorem read_g {pre g w r : Bs} (hg : GapOk g) (hs : ∀ p, skp false (w ++ r) p = p) {k : Tk} {n : Nat} (hw : (match w ++ r with
    | [] => (⟨k_end, [], (pre ++ (g ++ (w ++ r))).length, 0, 0⟩, (pre ++ (g ++ (w ++ r))).length)
    | c :: r' =>
      if letter c = true then (named ((c :: r').take (spanN alnum (c :: r'))) (pre.length + g.length), pre.length + g.length + spanN alnum (c :: r'))
      else if digit c = true then (number ((c :: r').take (spanN digit (c :: r'))) (pre.length + g.length), pre.length + g.length + spanN digit (c :: r'))
      else match signAt (c :: r') with
        | some t => (⟨t, t, pre.length + g.length, 0, 0⟩, pre.length + g.length + t.length)
        | none => (⟨[], [], pre.length + g.length, 0, 140⟩, pre.length + g.length + 1) : Tk × Nat) = (k, n)) : readT (pre ++ (g ++ (w ++ r))) pre.length = (k, n) := by
  have h1 : (pre ++ (g ++ (w ++ r))).drop pre.length = g ++ (w ++ r) := List.drop_left
  have h2 : skp false (g ++ (w ++ r)) pre.length = pre.length + g.length := by rw [hg.skip, hs]
  have h3 : (pre ++ (g ++ (w ++ r))).drop (pre.length + g.length) = w ++ r := by rw [← List.drop_drop, h1, List.drop_left]
  unfold readT
  rw [h1, h2, h3]
  exact hw
theorem dig_le {c : UInt8} (h : digit c = true) : letter c = false ∧ blank c = false ∧ c.toNat ≠ 47 := by
  unfold digit at h
  unfold letter blank
  simp only [decide_eq_true_eq] at h
  simp only [decide_eq_false_iff_not]
  omega
theorem read_ad {pre g w r : Bs} {o : Option UInt8} (hg : GapOk g) (ha : Ad w o) (hf : Fol r o) : readT (pre ++ (g ++ (w ++ r))) pre.length = (tkP w (pre.length + g.length), pre.length + g.length + w.length) := by
  have nxt : ∀ f : UInt8 → Bool, (∀ c, blank c = true → f c = false) → (∀ c, o = some c → f c = false) → ∀ c r', r = c :: r' → f c = false := fun f h1 h2 c r' h => by
    cases o with
    | none => exact h1 c (hf c r' h)
    | some d =>
      obtain ⟨r2, h3⟩ := hf
      rw [h3] at h
      have := (List.cons.inj h).1
      exact this ▸ h2 d rfl
  rcases ha with ⟨hw, ho⟩ | ⟨⟨m, rfl, hm⟩, ho⟩ | ⟨hw, ho⟩
  · obtain ⟨c, w', rfl, hc, hall⟩ := wn_shape hw
    have hsp := span_all hall (nxt alnum (fun c h => (blank_no h).1) ho)
    have hst := letter_no (hall c (by simp))
    refine read_g hg (fun p => stop_c hst.1 (fun h => absurd h hst.2) p) ?_
    rw [List.cons_append] at hsp ⊢
    dsimp only
    rw [if_pos hc, hsp, ← List.cons_append, List.take_left]
    simp only [tkP]
    rw [if_pos hc]
  · have hd := dec_dig m
    have hne := dec_ne m
    cases hx : Go.Lib.decDigits m with
    | nil => exact absurd hx hne
    | cons c w' =>
      rw [hx] at hd
      have hc := hd c (by simp)
      have hsp := span_all hd (nxt digit (fun c h => (blank_no h).2.1) ho)
      have hst := dig_le hc
      refine read_g hg (fun p => stop_c hst.2.1 (fun h => absurd h hst.2.2) p) ?_
      rw [List.cons_append] at hsp ⊢
      dsimp only
      rw [if_neg (by rw [hst.1]; simp), if_pos hc, hsp, ← List.cons_append, List.take_left]
      simp only [tkP]
      rw [if_neg (by rw [hst.1]; simp), if_pos hc]
  · have hsg : ∀ w ∈ signs, (match w with | [] => false | c :: _ => !letter c && !digit c && !blank c) = true ∧ (match w with | c :: d :: _ => decide (c.toNat ≠ 47) | _ => true) = true := by decide
    obtain ⟨h1, h2⟩ := hsg w hw
    have hat := sign_ad hw ho hf
    match w, hw, h1, h2, ho, hat with
    | c :: w', hw, h1, h2, ho, hat =>
      simp only [Bool.and_eq_true, Bool.not_eq_true'] at h1
      refine read_g hg (fun p => stop_c h1.2 (fun h47 d r' hd => ?_) p) ?_
      · cases w' with
        | cons x y => exact absurd h47 (by simpa using h2)
        | nil =>
          have := nxt (fun c => decide (c.toNat = 47)) (fun c h => by simpa using (blank_no h).2.2) (fun c' hc' => by
            exfalso
            have hc : c = 47 := UInt8.toNat_inj.1 h47
            subst hc
            rcases ho c' hc' with h | h | h | h | h | h | h | ⟨h, _⟩ <;> exact absurd h (by decide)) d r' hd
          simpa using this
      · rw [List.cons_append] at hat ⊢
        dsimp only
        rw [if_neg (by rw [h1.1.1]; simp), if_neg (by rw [h1.1.2]; simp), hat]
        simp only [tkP]
        rw [if_neg (by rw [h1.1.1]; simp), if_neg (by rw [h1.1.2]; simp)]
def nbI (l : List It) (o : Option UInt8) : Option UInt8 := match l with
  | [] => o
  | (g, w) :: _ => if g = [] then w.head? else none
def AdjK : List It → Option UInt8 → Prop
  | [], _ => True
  | (g, w) :: l, o => Ad w (nbI l o) ∧ AdjK l o
def GapsOk (l : List It) : Prop := ∀ x ∈ l, GapOk x.1
theorem AdjK.app : ∀ {a b : List It} {o : Option UInt8}, AdjK a (nbI b o) → AdjK b o → AdjK (a ++ b) o
  | [], b, o, _, hb => hb
  | (g, w) :: a, b, o, ha, hb => by
    refine ⟨?_, AdjK.app ha.2 hb⟩
    cases a with
    | nil => exact ha.1
    | cons x a => exact ha.1
theorem ad_ne {w : Bs} {o : Option UInt8} (h : Ad w o) : w ≠ [] := by
  rcases h with ⟨h, _⟩ | ⟨⟨m, rfl, _⟩, _⟩ | ⟨h, _⟩
  · obtain ⟨c, r, h, _⟩ := wn_shape h
    rw [h]; simp
  · exact dec_ne m
  · have : ∀ w ∈ signs, w ≠ [] := by decide
    exact this w h
theorem ad_tk {w : Bs} {o : Option UInt8} (h : Ad w o) (p : Nat) : (tkP w p).err = 0 ∧ (tkP w p).kind ≠ k_end := by
  rcases h with ⟨h | h, _⟩ | ⟨⟨m, rfl, hm⟩, _⟩ | ⟨h, _⟩
  · rw [name_tk h]; exact ⟨rfl, by show k_name ≠ k_end; decide⟩
  · have key : ∀ w ∈ keywords, (match w with | [] => false | c :: _ => letter c) = true ∧ isKw w = true ∧ w ≠ k_end := by decide
    obtain ⟨h1, h2, h3⟩ := key w h
    match w, h1, h2, h3 with
    | c :: r, h1, h2, h3 =>
      simp only [tkP]
      rw [if_pos h1]
      unfold named
      rw [if_pos h2]
      exact ⟨rfl, h3⟩
  · rw [dec_tk hm]; exact ⟨rfl, by show k_number ≠ k_end; decide⟩
  · have key : ∀ w ∈ signs, (match w with | [] => false | c :: _ => !letter c && !digit c) = true ∧ w ≠ k_end := by decide
    obtain ⟨h1, h3⟩ := key w h
    match w, h1, h3 with
    | c :: r, h1, h3 =>
      simp only [Bool.and_eq_true, Bool.not_eq_true'] at h1
      simp only [tkP]
      rw [if_neg (by rw [h1.1]; simp), if_neg (by rw [h1.2]; simp)]
      exact ⟨rfl, h3⟩
theorem fol_of {l : List It} {t : Bs} (hg : GapsOk l) (ht : GapOk t) (ha : AdjK l none) : Fol (rnd l ++ t) (nbI l none) := by
  cases l with
  | nil => exact fun c r h => ht.hd c r h
  | cons x l =>
    obtain ⟨g, w⟩ := x
    have hgg : GapOk g := hg (g, w) (by simp)
    unfold nbI
    dsimp only
    split
    · rename_i h0
      subst h0
      have hne := ad_ne ha.1
      match w, hne with
      | c :: w, _ => exact ⟨w ++ (rnd l ++ t), by rw [rnd_cons]; simp⟩
    · rename_i h0
      intro c r h
      match g, h0, hgg with
      | d :: g, _, hgg =>
        rw [rnd_cons, List.cons_append, List.cons_append] at h
        exact (List.cons.inj h).1 ▸ hgg.hd d g rfl
theorem words_it : ∀ (l : List It) (t : Bs), GapsOk l → GapOk t → AdjK l none → ∀ pre n, l.length < n → MT l (words (pre ++ (rnd l ++ t)) n pre.length) [⟨k_end, [], (pre ++ (rnd l ++ t)).length, 0, 0⟩]
  | [], t, _, ht, _, pre, n, hn => by
    obtain ⟨n, rfl⟩ : ∃ k', n = k' + 1 := ⟨n - 1, by simp at hn; omega⟩
    have h1 : (pre ++ (rnd [] ++ t)).drop pre.length = t := by rw [List.drop_left]; rfl
    have h2 : skp false t pre.length = pre.length + t.length := by
      have := ht.skip [] pre.length
      rw [List.append_nil] at this
      exact this
    have h3 : readT (pre ++ (rnd [] ++ t)) pre.length = (⟨k_end, [], (pre ++ (rnd [] ++ t)).length, 0, 0⟩, (pre ++ (rnd [] ++ t)).length) := by
      unfold readT
      rw [h1, h2, List.drop_eq_nil_of_le (by rw [rnd_nil]; simp)]
    show words _ _ _ = _
    unfold words
    rw [h3, if_pos (.inr rfl)]
  | (g, w) :: l, t, hg, ht, ha, pre, n, hn => by
    obtain ⟨n, rfl⟩ : ∃ k', n = k' + 1 := ⟨n - 1, by simp at hn; omega⟩
    have hg2 : GapsOk l := fun x hx => hg x (by simp [hx])
    have e1 : pre ++ (rnd ((g, w) :: l) ++ t) = pre ++ (g ++ (w ++ (rnd l ++ t))) := by rw [rnd_cons]; simp
    have e2 : pre ++ (rnd ((g, w) :: l) ++ t) = (pre ++ g ++ w) ++ (rnd l ++ t) := by rw [rnd_cons]; simp
    have hr := read_ad (pre := pre) (hg (g, w) (by simp)) ha.1 (fol_of hg2 ht ha.2)
    have htk := ad_tk ha.1 (pre.length + g.length)
    have ih := words_it l t hg2 ht ha.2 (pre ++ g ++ w) n (by simp at hn; omega)
    rw [← e1] at hr
    rw [← e2] at ih
    refine ⟨pre.length + g.length, words (pre ++ (rnd ((g, w) :: l) ++ t)) n (pre.length + g.length + w.length), ?_, ?_⟩
    · conv => lhs; unfold words
      rw [hr, if_neg (by rintro (h | h); exact h htk.1; exact htk.2 h)]
    · rw [show (pre ++ g ++ w).length = pre.length + g.length + w.length by simp; omega] at ih
      exact ih
end Go.Tx
namespace Go.Tx
def Os (o : Option UInt8) : Prop := o = none ∨ o = some 41 ∨ o = some 44 ∨ o = some 59
theorem ad_lp (o : Option UInt8) : Ad s_lp o := .inr (.inr ⟨by decide, fun _ _ => .inl rfl⟩)
theorem ad_rp (o : Option UInt8) : Ad s_rp o := .inr (.inr ⟨by decide, fun _ _ => .inr (.inl rfl)⟩)
theorem ad_lb (o : Option UInt8) : Ad s_lb o := .inr (.inr ⟨by decide, fun _ _ => .inr (.inr (.inl rfl))⟩)
theorem ad_rb (o : Option UInt8) : Ad s_rb o := .inr (.inr ⟨by decide, fun _ _ => .inr (.inr (.inr (.inl rfl)))⟩)
theorem ad_comma (o : Option UInt8) : Ad s_comma o := .inr (.inr ⟨by decide, fun _ _ => .inr (.inr (.inr (.inr (.inl rfl))))⟩)
theorem ad_semi (o : Option UInt8) : Ad s_semi o := .inr (.inr ⟨by decide, fun _ _ => .inr (.inr (.inr (.inr (.inr (.inl rfl)))))⟩)
theorem ad_minus (o : Option UInt8) : Ad s_minus o := .inr (.inr ⟨by decide, fun _ _ => .inr (.inr (.inr (.inr (.inr (.inr (.inl rfl))))))⟩)
theorem ad_bang {o : Option UInt8} (h : o ≠ some 61) : Ad s_bang o := .inr (.inr ⟨by decide, fun c hc => .inr (.inr (.inr (.inr (.inr (.inr (.inr ⟨rfl, fun e => h (by rw [hc, e])⟩))))))⟩)
theorem ad_none {w : Bs} (h : w ∈ signs) : Ad w none := .inr (.inr ⟨h, fun _ h => by cases h⟩)
theorem os_no {o : Option UInt8} (h : Os o) : ∀ c, o = some c → alnum c = false ∧ digit c = false := by
  intro c hc
  rcases h with rfl | rfl | rfl | rfl <;> cases hc <;> decide
theorem ad_name {w : Bs} {o : Option UInt8} (h : isNameB w = true) (ho : Os o ∨ o = some 40) : Ad w o := by
  refine .inl ⟨.inl h, fun c hc => ?_⟩
  rcases ho with ho | ho
  · exact (os_no ho c hc).1
  · rw [ho] at hc; cases hc; decide
theorem ad_kw {w : Bs} {o : Option UInt8} (h : w ∈ keywords) (ho : Os o ∨ o = some 40) : Ad w o := by
  refine .inl ⟨.inr h, fun c hc => ?_⟩
  rcases ho with ho | ho
  · exact (os_no ho c hc).1
  · rw [ho] at hc; cases hc; decide
theorem ad_dec {m : Nat} {o : Option UInt8} (hm : m ≤ 9223372036854775808) (ho : Os o) : Ad (Go.Lib.decDigits m) o := .inr (.inl ⟨⟨m, rfl, hm⟩, fun c hc => (os_no ho c hc).2⟩)
def AF (f : Bs → List It) : Prop := ∀ g o, Os o → AdjK (f g) o
theorem nb_rest (fs : List (Bs → List It)) (l : List It) (o : Option UInt8) : Os (nbI (itRest fs ++ ([], s_rp) :: l) o) := by
  cases fs with
  | nil => exact .inr (.inl rfl)
  | cons f r => exact .inr (.inr (.inl rfl))
theorem adj_rest {l : List It} {o : Option UInt8} (hl : AdjK l o) : ∀ fs : List (Bs → List It), (∀ f ∈ fs, AF f) → AdjK (itRest fs ++ ([], s_rp) :: l) o
  | [], _ => ⟨ad_rp _, hl⟩
  | f :: r, h => by
    refine ⟨ad_comma _, ?_⟩
    show AdjK ((f [32] ++ itRest r) ++ ([], s_rp) :: l) o
    rw [List.append_assoc]
    exact AdjK.app (h f (by simp) _ _ (nb_rest r l o)) (adj_rest hl r fun x hx => h x (by simp [hx]))
theorem adj_args {l : List It} {o : Option UInt8} (hl : AdjK l o) (fs : List (Bs → List It)) (h : ∀ f ∈ fs, AF f) : AdjK (itArgs fs ++ ([], s_rp) :: l) o := by
  cases fs with
  | nil => exact ⟨ad_rp _, hl⟩
  | cons f r =>
    show AdjK ((f [] ++ itRest r) ++ ([], s_rp) :: l) o
    rw [List.append_assoc]
    exact AdjK.app (h f (by simp) _ _ (nb_rest r l o)) (adj_rest hl r fun x hx => h x (by simp [hx]))
theorem adj_par {f : Bs → List It} (h : AF f) (b : Bool) : AF (itPar b f) := by
  intro g o ho
  unfold itPar
  split
  · exact ⟨ad_lp _, AdjK.app (h [] _ (.inr (.inl rfl))) ⟨ad_rp _, trivial⟩⟩
  · exact h g o ho
theorem Fw.hd {w : Bs} (h : Fw w) : w.head? ≠ some 61 := by
  rcases h with h | h | h | h | ⟨m, h, hm⟩ | h | h | h | h
  · subst h; decide
  · subst h; decide
  · subst h; decide
  · obtain ⟨c, r, rfl, hc, _⟩ := wn_shape (.inl h)
    intro e
    have : c = 61 := by simpa using e
    subst this
    exact absurd hc (by decide)
  · subst h
    have hd := dec_dig m
    cases hx : Go.Lib.decDigits m with
    | nil => simp
    | cons c r =>
      intro e
      have : c = 61 := by simpa using e
      subst this
      exact absurd (hd 61 (by rw [hx]; simp)) (by decide)
  · subst h; decide
  · subst h; decide
  · subst h; decide
  · subst h; decide
theorem par_fst (b : Bool) {e : Ex} (g : Bs) (hb : exB e = true) (hr : rgE e) : ∃ w tl, itPar b (itE e) g = (g, w) :: tl ∧ Fw w := by
  unfold itPar
  split
  · exact ⟨_, _, rfl, .inl rfl⟩
  · exact itE_fst e g hb hr
theorem nb_g {l : List It} {g w : Bs} {tl : List It} {o : Option UInt8} (h : l = (g, w) :: tl) (hg : g ≠ []) : nbI l o = none := by
  rw [h]; unfold nbI; dsimp only; rw [if_neg hg]
theorem nb_e {l : List It} {w : Bs} {tl : List It} {o : Option UInt8} (h : l = ([], w) :: tl) : nbI l o = w.head? := by
  rw [h]; unfold nbI; dsimp only; rw [if_pos rfl]
theorem sgK_mem {kd o : Int} (h : (sgK kd o).1 ≠ []) : (sgK kd o).1 ∈ signs := by
  have hst := (sg_stands (kd := kd) (o := o) (s := (sgK kd o).1) (lv := (sgK kd o).2) rfl h).1
  obtain ⟨_, l, h2, h3⟩ := stands_lt hst
  have key : (levels.all fun l => l.all fun s => signs.contains s) = true := by decide
  exact List.contains_iff_mem.1 (List.all_eq_true.1 (List.all_eq_true.1 key l (List.mem_of_getElem? h2)) _ h3)
mutual
theorem adjE : ∀ (e : Ex), exB e = true → rgE e → AF (itE e)
  | .mk kd o n nm cb ks, hb, hr, g, o', ho => by
    simp only [exB, Bool.and_eq_true] at hb
    have hh := hb.2
    have ih := adjEs ks hb.1 hr.2
    have hk : ∀ x ∈ ks, exB x = true ∧ rgE x := fun x hx => ⟨exB_of hb.1 hx, rgE_of hr.2 hx⟩
    simp only [itE]
    unfold itN
    split
    · rename_i hne
      have h2 := kids_two hh hne
      match ks, h2, hk, ih with
      | [a, b], _, hk, ih =>
        have ha : AF (itE a) := ih _ (by simp [itEs])
        have hb : AF (itE b) := ih _ (by simp [itEs])
        obtain ⟨w, tl, h1, _⟩ := par_fst (decide ((sgE ([a, b].getD 1 .zero)).2 ≤ (sgK kd o).2)) [32] (hk b (by simp)).1 (hk b (by simp)).2
        refine AdjK.app ?_ ⟨?_, ?_⟩
        · exact adj_par ha _ g _ (.inl (nb_g rfl (by simp)))
        · rw [show nbI (itPar (decide ((sgE ([a, b].getD 1 .zero)).2 ≤ (sgK kd o).2)) (kidI (itEs [a, b]) 1) [32]) o' = none from nb_g h1 (by simp)]
          exact ad_none (sgK_mem hne)
        · exact adj_par hb _ _ _ ho
    · split
      · split
        · exact ⟨ad_minus _, ad_dec (by have := hr.1; omega) ho, trivial⟩
        · exact ⟨ad_dec (by have := hr.1; omega) ho, trivial⟩
      · split
        · rename_i h1
          exact ⟨ad_name (by simp [hdB, h1] at hh; exact hh.2) (.inl ho), trivial⟩
        · split
          · rename_i h2
            have hm : ks.length = 1 := by simp [hdB, h2] at hh; exact hh.1.1.1.1
            match ks, hm, ih with
            | [a], _, ih => exact ⟨ad_minus _, adj_par (ih (itE a) (by simp [itEs])) _ _ _ ho⟩
          · split
            · rename_i h3
              have hm : ks.length = 1 := by simp [hdB, h3] at hh; exact hh.1.1.1.1
              match ks, hm, ih, hk with
              | [a], _, ih, hk =>
                obtain ⟨w, tl, h1, h2⟩ := par_fst (decide ((sgE ([a].getD 0 .zero)).1 ≠ [])) [] (hk a (by simp)).1 (hk a (by simp)).2
                refine ⟨ad_bang ?_, adj_par (ih (itE a) (by simp [itEs])) _ _ _ ho⟩
                rw [show nbI (itPar (decide ((sgE ([a].getD 0 .zero)).1 ≠ [])) (kidI (itEs [a]) 0) []) o' = w.head? from nb_e h1]
                exact h2.hd
            · split
              · rename_i hsg _ _ _ _ h4
                subst h4
                have hop : opNm o ≠ [] := by simp [hdB] at hh; exact hh.1.1.1.2
                refine ⟨ad_kw ?_ (.inr rfl), ad_lp _, adj_args (l := []) (o := o') trivial _ ih⟩
                rcases (minmax hop hsg).1 with h | h <;> rw [h] <;> decide
              · split
                · rename_i h5
                  exact ⟨ad_name (by simp [hdB, h5] at hh; exact hh.2) (.inr rfl), ad_lp _, adj_args (l := []) (o := o') trivial _ ih⟩
                · split
                  · rename_i h6
                    have hnn : isNameB nm = true ∧ isNameB cb = true := by simp [hdB, h6] at hh; exact ⟨hh.1.2, hh.2⟩
                    exact ⟨ad_kw (by decide) (.inr rfl), ad_lp _, ad_name hnn.1 (.inl (.inr (.inr (.inl rfl)))), ad_comma _, ad_name hnn.2 (.inl (nb_rest _ _ _)), adj_rest (l := []) (o := o') trivial _ ih⟩
                  · have hnn : isNameB nm = true := by
                      rename_i k8 k0 k1 k2 k3 k4 k5 k6
                      unfold hdB at hh
                      repeat' split at hh
                      all_goals first | (exfalso; simp at hh; done) | (exfalso; omega) | (simp only [Bool.and_eq_true] at hh; exact hh.2) | skip
                      all_goals (exfalso; rename_i h8; rcases h8 with h8 | h8 <;> subst h8)
                      · exact k8 (by show (sgn2 s_andd).1 ≠ []; decide)
                      · exact k8 (by show (sgn2 s_orr).1 ≠ []; decide)
                    exact ⟨ad_kw (by decide) (.inr rfl), ad_lp _, ad_name hnn (.inl (nb_rest _ _ _)), adj_rest (l := []) (o := o') trivial _ ih⟩
theorem adjEs : ∀ (l : List Ex), exBs l = true → rgEs l → ∀ f ∈ itEs l, AF f
  | [], _, _, f, h => by simp [itEs] at h
  | e :: r, hb, hr, f, h => by
    simp only [exBs, Bool.and_eq_true] at hb
    simp only [itEs, List.mem_cons] at h
    rcases h with rfl | h
    · exact adjE e hb.1 hr.1
    · exact adjEs r hb.2 hr.2 f h
end
theorem nb_b {b : List St} {o : Nat} {x : It} {l : List It} {o' : Option UInt8} (hb : stBs b = true) (hx : x.1 ≠ []) : nbI (itB o b ++ x :: l) o' = none := by
  cases b with
  | nil => exact nb_g (g := x.1) (w := x.2) rfl hx
  | cons s r =>
    simp only [stBs, Bool.and_eq_true] at hb
    obtain ⟨w, tl, h1, _⟩ := itS_fst s o (nlT o) hb.1
    refine nb_g (g := nlT o) (w := w) (tl := tl ++ (itB o r ++ x :: l)) ?_ (by simp [nlT])
    simp only [itB]
    rw [h1]; simp
theorem adj_e {e : Ex} (hb : exB e = true) (hr : rgE e) {g g2 w : Bs} {l : List It} {o : Option UInt8} (h1 : g2 ≠ [] ∨ w = s_semi) (h : AdjK ((g2, w) :: l) o) : AdjK (itE e g ++ (g2, w) :: l) o := by
  refine AdjK.app (adjE e hb hr g _ ?_) h
  by_cases hg : g2 = []
  · have hw : w = s_semi := by rcases h1 with h1 | h1; exact absurd hg h1; exact h1
    subst hg hw
    exact .inr (.inr (.inr rfl))
  · exact .inl (nb_g rfl hg)
theorem nb_ex {e : Ex} (hb : exB e = true) (hr : rgE e) {l : List It} {o : Option UInt8} : nbI (itE e [32] ++ l) o = none := by
  obtain ⟨w, tl, h1, _⟩ := itE_fst e [32] hb hr
  rw [h1]
  exact nb_g rfl (by simp)
theorem kn {w : Bs} (h : w ∈ keywords) : Ad w none := ad_kw h (.inl (.inl rfl))
theorem nn {w : Bs} (h : isNameB w = true) : Ad w none := ad_name h (.inl (.inl rfl))
mutual
theorem adjS : ∀ (s : St) (o : Nat) (g : Bs), stB s = true → rgS s → AdjK (itS o s g) none
  | .mk kd nm e b f, o, g, h, hr => by
    have hc := st_cases h
    simp only [itS]
    have sem : AdjK [(([] : Bs), s_semi)] none := ⟨ad_semi _, trivial⟩
    have key : ∀ {w : Bs}, w ∈ keywords → ∀ {l : List It} {o : Option UInt8}, exB e = true → Ad w (nbI (itE e [32] ++ l) o) := fun hw l o he => by rw [nb_ex he hr.1]; exact kn hw
    rcases hc with h | h | h | h | h | h | h | h | h | h
    · rw [h.1]
      exact ⟨kn (by decide), nn h.2.1, by show Ad s_asg (nbI (itE e [32] ++ _) none); rw [nb_ex h.2.2.1 hr.1]; exact ad_none (by decide), adj_e h.2.2.1 hr.1 (.inr rfl) sem⟩
    · rw [h.1]
      exact ⟨nn h.2.1, by show Ad s_asg (nbI (itE e [32] ++ _) none); rw [nb_ex h.2.2.1 hr.1]; exact ad_none (by decide), adj_e h.2.2.1 hr.1 (.inr rfl) sem⟩
    · rw [h.1]
      exact ⟨kn (by decide), nn h.2.1, by show Ad s_asg (nbI (itE e [32] ++ _) none); rw [nb_ex h.2.2.2.1 hr.1]; exact ad_none (by decide), adj_e h.2.2.2.1 hr.1 (.inr rfl) sem⟩
    · rw [h.1]; exact ⟨ad_kw (by decide) (.inl (.inr (.inr (.inr rfl)))), sem⟩
    · rw [h.1]; exact ⟨ad_kw (by decide) (.inl (.inr (.inr (.inr rfl)))), sem⟩
    · rw [h.1]; exact ⟨ad_kw (by decide) (.inl (.inr (.inr (.inr rfl)))), sem⟩
    · rw [h.1]; exact ⟨key (by decide) h.2.2.1, adj_e h.2.2.1 hr.1 (.inr rfl) sem⟩
    · rw [h.1]; exact ⟨key (by decide) h.2.2.1, adj_e h.2.2.1 hr.1 (.inr rfl) sem⟩
    · rw [h.1]
      exact ⟨key (by decide) h.2.2.1, adj_e h.2.2.1 hr.1 (.inl (by simp)) ⟨ad_lb _, adjB b (o + 1) h.2.2.2.1 hr.2.1 _ _ (by simp [nlT]) ⟨ad_rb _, trivial⟩⟩⟩
    · rw [h.1]
      refine ⟨key (by decide) h.2.2.1, adj_e h.2.2.1 hr.1 (.inl (by simp)) ⟨ad_lb _, adjB b (o + 1) h.2.2.2.1 hr.2.1 _ _ (by simp [nlT]) ⟨ad_rb _, ?_⟩⟩⟩
      match f, h.2.2.2.2, hr.2.2 with
      | [], _, _ => exact trivial
      | .mk kd2 nm2 e2 b2 f2 :: r, hf, hrf =>
        simp only [itElse]
        split
        · have hs1 : stB (.mk kd2 nm2 e2 b2 f2) = true := by simp only [stBs, Bool.and_eq_true] at hf; exact hf.1
          obtain ⟨w, tl, h1, _⟩ := itS_fst (.mk kd2 nm2 e2 b2 f2) o [32] hs1
          simp only [itH]
          refine ⟨?_, adjS (.mk kd2 nm2 e2 b2 f2) o [32] hs1 hrf.1⟩
          rw [nb_g h1 (by simp)]
          exact kn (by decide)
        · exact ⟨kn (by decide), ad_lb _, adjB (.mk kd2 nm2 e2 b2 f2 :: r) (o + 1) hf hrf _ _ (by simp [nlT]) ⟨ad_rb _, trivial⟩⟩
theorem adjB : ∀ (b : List St) (o : Nat), stBs b = true → rgSs b → ∀ (x : It) (l : List It), x.1 ≠ [] → AdjK (x :: l) none → AdjK (itB o b ++ x :: l) none
  | [], o, _, _, x, l, _, h => h
  | s :: r, o, hb, hr, x, l, hx, h => by
    simp only [stBs, Bool.and_eq_true] at hb
    simp only [itB]
    rw [List.append_assoc]
    refine AdjK.app ?_ (adjB r o hb.2 hr.2 x l hx h)
    rw [nb_b hb.2 hx]
    exact adjS s o (nlT o) hb.1 hr.1
end
theorem adjP : ∀ (ps : List Bs), (ps.all isNameB) = true → ∀ f ∈ itP ps, AF f
  | [], _, f, h => by simp [itP] at h
  | p :: r, hb, f, h => by
    simp only [List.all_cons, Bool.and_eq_true] at hb
    simp only [itP, List.map_cons, List.mem_cons] at h
    rcases h with rfl | h
    · exact fun g o ho => ⟨ad_name hb.1 (.inl ho), trivial⟩
    · exact adjP r hb.2 f h
theorem adjF {f : Fnc} (g : Bs) (hb : fnB f = true) (hr : rgSs f.body) : AdjK (itF f g) none := by
  simp only [fnB, Bool.and_eq_true] at hb
  unfold itF
  exact ⟨kn (by decide), ad_name hb.1.1 (.inr rfl), ad_lp _, adj_args (l := ([32], s_lb) :: (itB 1 f.body ++ [([10], s_rb)])) (o := none) ⟨ad_lb _, adjB f.body 1 hb.2 hr ([10], s_rb) [] (by simp) ⟨ad_rb _, trivial⟩⟩ _ (adjP f.params hb.1.2)⟩
theorem adjL : ∀ (fs : List Fnc) (g : Bs), (fs.all fnB) = true → (∀ f ∈ fs, rgSs f.body) → AdjK (itL fs g) none
  | [], _, _, _ => trivial
  | f :: r, g, hb, hr => by
    simp only [List.all_cons, Bool.and_eq_true] at hb
    simp only [itL]
    refine AdjK.app ?_ (adjL r [10] hb.2 fun x hx => hr x (by simp [hx]))
    have : nbI (itL r [10]) none = none := by
      cases r with
      | nil => rfl
      | cons x r => exact nb_g (g := [10]) (w := k_fn) rfl (by simp)
    rw [this]
    exact adjF g hb.1 (hr f (by simp))
end Go.Tx
namespace Go.Tx
def Bk (g : Bs) : Prop := ∀ c ∈ g, c = 32 ∨ c = 9 ∨ c = 10
def GBk (l : List It) : Prop := ∀ x ∈ l, Bk x.1
theorem GBk.nil : GBk [] := fun x h => by cases h
theorem GBk.cons {x : It} {l : List It} (h : Bk x.1) (hl : GBk l) : GBk (x :: l) := fun y hy => by
  rcases List.mem_cons.1 hy with rfl | hy
  · exact h
  · exact hl y hy
theorem GBk.app {a b : List It} (ha : GBk a) (hb : GBk b) : GBk (a ++ b) := fun y hy => by
  rcases List.mem_append.1 hy with hy | hy
  · exact ha y hy
  · exact hb y hy
theorem bk0 : Bk [] := fun c h => by cases h
theorem bk1 : Bk [32] := fun c h => by simp at h; exact .inl h
theorem bk10 : Bk [10] := fun c h => by simp at h; exact .inr (.inr h)
theorem bkN (o : Nat) : Bk (nlT o) := fun c h => by
  unfold nlT tabs at h
  rcases List.mem_cons.1 h with h | h
  · exact .inr (.inr h)
  · exact .inr (.inl (List.eq_of_mem_replicate h))
def GFn (f : Bs → List It) : Prop := ∀ g, Bk g → GBk (f g)
theorem gb_rest : ∀ fs : List (Bs → List It), (∀ f ∈ fs, GFn f) → GBk (itRest fs)
  | [], _ => GBk.nil
  | f :: r, h => GBk.cons bk0 (GBk.app (h f (by simp) _ bk1) (gb_rest r fun x hx => h x (by simp [hx])))
theorem gb_args (fs : List (Bs → List It)) (h : ∀ f ∈ fs, GFn f) : GBk (itArgs fs) := by
  cases fs with
  | nil => exact GBk.nil
  | cons f r => exact GBk.app (h f (by simp) _ bk0) (gb_rest r fun x hx => h x (by simp [hx]))
theorem gb_par {f : Bs → List It} (h : GFn f) (b : Bool) : GFn (itPar b f) := by
  intro g hg
  unfold itPar
  split
  · exact GBk.cons hg (GBk.app (h _ bk0) (GBk.cons bk0 GBk.nil))
  · exact h g hg
theorem gb_kid {fs : List (Bs → List It)} (h : ∀ f ∈ fs, GFn f) (i : Nat) : GFn (kidI fs i) := by
  unfold kidI
  rw [List.getD_eq_getElem?_getD]
  cases hx : fs[i]? with
  | none => intro g hg; exact GBk.nil
  | some f => exact h f (List.mem_of_getElem? hx)
mutual
theorem gbE : ∀ (e : Ex), GFn (itE e)
  | .mk kd o n nm cb ks, g, hg => by
    have ih := gbEs ks
    simp only [itE]
    unfold itN
    split
    · exact GBk.app (gb_par (gb_kid ih 0) _ _ hg) (GBk.cons bk1 (gb_par (gb_kid ih 1) _ _ bk1))
    · split
      · split
        · exact GBk.cons hg (GBk.cons bk0 GBk.nil)
        · exact GBk.cons hg GBk.nil
      · split
        · exact GBk.cons hg GBk.nil
        · split
          · exact GBk.cons hg (gb_par (gb_kid ih 0) _ _ bk0)
          · split
            · exact GBk.cons hg (gb_par (gb_kid ih 0) _ _ bk0)
            · split
              · exact GBk.cons hg (GBk.cons bk0 (GBk.app (gb_args _ ih) (GBk.cons bk0 GBk.nil)))
              · split
                · exact GBk.cons hg (GBk.cons bk0 (GBk.app (gb_args _ ih) (GBk.cons bk0 GBk.nil)))
                · split
                  · exact GBk.cons hg (GBk.cons bk0 (GBk.cons bk0 (GBk.cons bk0 (GBk.cons bk1 (GBk.app (gb_rest _ ih) (GBk.cons bk0 GBk.nil))))))
                  · exact GBk.cons hg (GBk.cons bk0 (GBk.cons bk0 (GBk.app (gb_rest _ ih) (GBk.cons bk0 GBk.nil))))
theorem gbEs : ∀ (l : List Ex), ∀ f ∈ itEs l, GFn f
  | [], f, h => by simp [itEs] at h
  | e :: r, f, h => by
    simp only [itEs, List.mem_cons] at h
    rcases h with rfl | h
    · exact gbE e
    · exact gbEs r f h
end
mutual
theorem gbS : ∀ (s : St) (o : Nat) (g : Bs), Bk g → GBk (itS o s g)
  | .mk kd nm e b f, o, g, hg => by
    have he := gbE e [32] bk1
    have hb := gbB b (o + 1)
    have hf := gbB f (o + 1)
    have sem : GBk [(([] : Bs), s_semi)] := GBk.cons bk0 GBk.nil
    have hel : GBk (itElse o f (itH o f) (itB (o + 1) f)) := by
      match f, hf with
      | [], _ => exact GBk.nil
      | .mk kd2 nm2 e2 b2 f2 :: r, hf =>
        simp only [itElse]
        split
        · simp only [itH]
          exact GBk.cons bk1 (gbS (.mk kd2 nm2 e2 b2 f2) o [32] bk1)
        · exact GBk.cons bk1 (GBk.cons bk1 (GBk.app hf (GBk.cons (bkN o) GBk.nil)))
    simp only [itS]
    unfold itSt
    split
    · exact GBk.cons hg (GBk.cons bk1 (GBk.cons bk1 (GBk.app he sem)))
    · split
      · exact GBk.cons hg (GBk.cons bk1 (GBk.app he sem))
      · split
        · exact GBk.cons hg (GBk.cons bk1 (GBk.cons bk1 (GBk.app he sem)))
        · split
          · exact GBk.cons hg sem
          · split
            · exact GBk.cons hg sem
            · split
              · exact GBk.cons hg sem
              · split
                · exact GBk.cons hg (GBk.app he sem)
                · split
                  · exact GBk.cons hg (GBk.app he sem)
                  · split
                    · exact GBk.cons hg (GBk.app he (GBk.cons bk1 (GBk.app hb (GBk.cons (bkN o) GBk.nil))))
                    · split
                      · exact GBk.cons hg (GBk.app he (GBk.cons bk1 (GBk.app hb (GBk.cons (bkN o) hel))))
                      · exact GBk.nil
theorem gbB : ∀ (b : List St) (o : Nat), GBk (itB o b)
  | [], _ => GBk.nil
  | s :: r, o => by
    simp only [itB]
    exact GBk.app (gbS s o _ (bkN o)) (gbB r o)
end
theorem gbP : ∀ ps : List Bs, ∀ f ∈ itP ps, GFn f
  | [], f, h => by simp [itP] at h
  | p :: r, f, h => by
    simp only [itP, List.map_cons, List.mem_cons] at h
    rcases h with rfl | h
    · exact fun g hg => GBk.cons hg GBk.nil
    · exact gbP r f h
theorem gbL : ∀ (fs : List Fnc) (g : Bs), Bk g → GBk (itL fs g)
  | [], _, _ => GBk.nil
  | f :: r, g, hg => by
    simp only [itL, itF]
    exact GBk.app (GBk.cons hg (GBk.cons bk1 (GBk.cons bk0 (GBk.app (gb_args _ (gbP f.params)) (GBk.cons bk0 (GBk.cons bk1 (GBk.app (gbB f.body 1) (GBk.cons bk10 GBk.nil)))))))) (gbL r [10] bk10)
theorem bk_ok {g : Bs} (h : Bk g) : GapOk g := GapOk.blanks fun c hc => by
  rcases h c hc with rfl | rfl | rfl <;> decide
def Shp : List It → List It → Prop
  | [], [] => True
  | x :: l, y :: l' => y.2 = x.2 ∧ (x.1 = [] ↔ y.1 = []) ∧ Shp l l'
  | _, _ => False
theorem Shp.rfl' : ∀ l : List It, Shp l l
  | [] => trivial
  | x :: l => ⟨rfl, Iff.rfl, Shp.rfl' l⟩
theorem Shp.nb : ∀ {l l' : List It} {o : Option UInt8}, Shp l l' → nbI l' o = nbI l o
  | [], [], _, _ => rfl
  | (g, w) :: l, (g', w') :: l', o, h => by
    obtain ⟨h1, h2, _⟩ := h
    simp only at h1 h2
    unfold nbI
    dsimp only
    rw [h1]
    by_cases hg : g = []
    · rw [if_pos hg, if_pos (h2.1 hg)]
    · rw [if_neg hg, if_neg (fun h => hg (h2.2 h))]
theorem Shp.adj : ∀ {l l' : List It} {o : Option UInt8}, Shp l l' → AdjK l o → AdjK l' o
  | [], [], _, _, _ => trivial
  | (g, w) :: l, (g', w') :: l', o, h, ha => by
    have h1 : w' = w := h.1
    refine ⟨?_, Shp.adj h.2.2 ha.2⟩
    rw [h1, Shp.nb h.2.2]
    exact ha.1
theorem Shp.mt : ∀ {l l' : List It} {ts rest : List Tk}, Shp l l' → MT l' ts rest → MT l ts rest
  | [], [], _, _, _, h => h
  | (g, w) :: l, (g', w') :: l', ts, rest, h, hm => by
    obtain ⟨p, ts', h1, h2⟩ := hm
    have hw : w' = w := h.1
    refine ⟨p, ts', ?_, Shp.mt h.2.2 h2⟩
    rw [h1]; show tkP w' p :: ts' = tkP w p :: ts'; rw [hw]
theorem rnd_len : ∀ {l : List It} {o : Option UInt8}, AdjK l o → l.length ≤ (rnd l).length
  | [], _, _ => Nat.le_refl _
  | (g, w) :: l, o, h => by
    have h1 := ad_ne h.1
    have := rnd_len h.2
    have : 1 ≤ w.length := by cases w with | nil => exact absurd rfl h1 | cons c r => simp
    rw [rnd_cons]
    simp only [List.length_append, List.length_cons]
    omega
theorem reads {fs : List Fnc} (hb : treeB fs = true) (hr : ∀ f ∈ fs, rgSs f.body) {L : List It} (hs : Shp (itL fs []) L) (hg : GapsOk L) {t : Bs} (ht : GapOk t) (fuel : Nat) : ∃ e, Rz (∀ f ∈ fs, nstB f.body 1) (parseP (rnd L ++ t) fuel) (.ok fs [e]) := by
  have hb2 := hb
  simp only [treeB, Bool.and_eq_true, decide_eq_true_eq] at hb2
  have ha := hs.adj (adjL fs [] hb2.2 hr)
  have hlen := rnd_len ha
  have hw := words_it L t hg ht ha [] ((rnd L ++ t).length + 1) (by simp; omega)
  exact ⟨_, parse_of hb hr (e := ⟨k_end, [], _, 0, 0⟩) ⟨rfl, rfl⟩ (hs.mt hw) fuel⟩
theorem reads_whole {fs : List Fnc} (hb : treeB fs = true) (hr : ∀ f ∈ fs, rgSs f.body) (fuel : Nat) : ∃ e, Rz (∀ f ∈ fs, nstB f.body 1) (parseP (whole fs) fuel) (.ok fs [e]) := by
  have hb2 := hb
  simp only [treeB, Bool.and_eq_true, decide_eq_true_eq] at hb2
  have := reads hb hr (Shp.rfl' _) (fun x hx => bk_ok (gbL fs [] bk0 x hx)) (bk_ok bk10) fuel
  rw [itL_rnd fs [] hb2.1 hb2.2] at this
  exact this
end Go.Tx
namespace Go.Tx
def Ne {α : Type} (r : Res α) : Prop := match r with
  | .err e _ => e ≠ 0
  | _ => True
theorem Ne.bind {α β : Type} {r : Res α} {k : α → List Tk → Res β} (h : Ne r) (hk : ∀ a ts, Ne (k a ts)) : Ne (r.bind k) := by
  cases r with
  | out => exact trivial
  | err e p => exact h
  | ok a ts => exact hk a ts
theorem ne_ok {α : Type} {a : α} {ts : List Tk} : Ne (Res.ok a ts) := trivial
theorem ne_141 {α : Type} {p : Nat} : Ne (Res.err 141 p : Res α) := by show (141 : Int) ≠ 0; decide
theorem ne_step (m : Bool) (ts : List Tk) : Ne (stepP m ts) := by
  unfold stepP
  split
  · split
    · assumption
    · split
      · show (143 : Int) ≠ 0; decide
      · exact trivial
  · exact trivial
theorem ne_take (k : Bs) (ts : List Tk) : Ne (takeP k ts) := by
  unfold takeP
  split
  · exact ne_141
  · exact Ne.bind (ne_step _ _) fun _ _ => ne_ok
theorem ne_deep (d : Nat) (ts : List Tk) : Ne (deepP d ts) := by
  unfold deepP
  split
  · show (144 : Int) ≠ 0; decide
  · exact trivial
structure NP (F : PF) : Prop where
  expr : ∀ a b ts, Ne (F.expr a b ts)
  unary : ∀ b ts, Ne (F.unary b ts)
  primary : ∀ b ts, Ne (F.primary b ts)
  block : ∀ b ts, Ne (F.block b ts)
  choice : ∀ b ts, Ne (F.choice b ts)
theorem ne_loopE {F : PF} (h : NP F) (lv d : Nat) : ∀ n e ts, Ne (loopE F lv d n e ts)
  | 0, _, _ => trivial
  | n + 1, e, ts => by
    unfold loopE
    split
    · exact Ne.bind (ne_step _ _) fun _ _ => Ne.bind (h.expr _ _ _) fun _ _ => ne_loopE h lv d n _ _
    · exact trivial
theorem ne_args {F : PF} (h : NP F) (d : Nat) : ∀ n l ts, Ne (argsP F d n l ts)
  | 0, _, _ => trivial
  | n + 1, l, ts => by
    unfold argsP
    split
    · exact Ne.bind (ne_take _ _) fun _ _ => ne_ok
    · refine Ne.bind ?_ fun _ _ => Ne.bind (h.expr _ _ _) fun _ _ => ne_args h d n _ _
      split
      · exact Ne.bind (ne_take _ _) fun _ _ => ne_ok
      · exact ne_ok
theorem ne_kids {F : PF} (h : NP F) (d m : Nat) : ∀ n l ts, Ne (kidsP F d m n l ts)
  | 0, _, _ => Ne.bind (ne_take _ _) fun _ _ => ne_ok
  | n + 1, l, ts => by
    unfold kidsP
    refine Ne.bind ?_ fun _ _ => Ne.bind (h.expr _ _ _) fun _ _ => ne_kids h d m n _ _
    split
    · exact Ne.bind (ne_take _ _) fun _ _ => ne_ok
    · exact ne_ok
theorem ne_loopN : ∀ n l ts, Ne (loopN n l ts)
  | 0, _, _ => trivial
  | n + 1, l, ts => by
    unfold loopN
    split
    · exact ne_ok
    · refine Ne.bind ?_ fun _ _ => Ne.bind (ne_take _ _) fun _ _ => ne_loopN n _ _
      split
      · exact Ne.bind (ne_take _ _) fun _ _ => ne_ok
      · exact ne_ok
theorem ne_plain {F : PF} (h : NP F) (d : Nat) (ts : List Tk) : Ne (plainP F d ts) := by
  unfold plainP
  refine Ne.bind (ne_step _ _) fun _ _ => ?_
  repeat' (first | exact ne_ok | exact ne_take _ _ | exact h.expr _ _ _ | exact ne_args h _ _ _ _ | (refine Ne.bind ?_ fun _ _ => ?_) | split)
theorem ne_stmt {F : PF} (h : NP F) (d : Nat) (ts : List Tk) : Ne (stmtP F d ts) := by
  unfold stmtP
  repeat' (first | exact ne_ok | exact ne_141 | exact ne_take _ _ | exact ne_step _ _ | exact ne_deep _ _ | exact h.expr _ _ _ | exact h.block _ _ | exact h.choice _ _ | exact ne_plain h _ _ | (refine Ne.bind ?_ fun _ _ => ?_) | split)
theorem ne_loopB {F : PF} (h : NP F) (d : Nat) : ∀ n l ts, Ne (loopB F d n l ts)
  | 0, _, _ => trivial
  | n + 1, l, ts => by
    unfold loopB
    split
    · exact ne_ok
    · exact Ne.bind (ne_stmt h _ _) fun _ _ => ne_loopB h d n _ _
theorem ne_next {F : PF} (h : NP F) : NP F.next where
  expr := fun a b ts => by
    show Ne (exprP F a b ts)
    unfold exprP
    split
    · exact h.unary _ _
    · exact Ne.bind (h.expr _ _ _) fun _ _ => ne_loopE h _ _ _ _ _
  unary := fun b ts => by
    show Ne (unaryP F b ts)
    unfold unaryP
    repeat' (first | exact ne_ok | exact ne_step _ _ | exact ne_deep _ _ | exact h.unary _ _ | exact h.primary _ _ | (refine Ne.bind ?_ fun _ _ => ?_) | split)
  primary := fun b ts => by
    show Ne (primaryP F b ts)
    unfold primaryP formP
    repeat' (first | exact ne_ok | exact ne_141 | exact ne_take _ _ | exact ne_step _ _ | exact ne_deep _ _ | exact h.expr _ _ _ | exact ne_args h _ _ _ _ | exact ne_kids h _ _ _ _ _ | (refine Ne.bind ?_ fun _ _ => ?_) | split)
  block := fun b ts => by
    show Ne (blockP F b ts)
    unfold blockP
    exact Ne.bind (ne_take _ _) fun _ _ => Ne.bind (ne_loopB h _ _ _ _) fun _ _ => Ne.bind (ne_take _ _) fun _ _ => ne_ok
  choice := fun b ts => by
    show Ne (choiceP F b ts)
    unfold choiceP
    repeat' (first | exact ne_ok | exact ne_take _ _ | exact ne_step _ _ | exact ne_deep _ _ | exact h.expr _ _ _ | exact h.block _ _ | exact h.choice _ _ | (refine Ne.bind ?_ fun _ _ => ?_) | split)
theorem ne_pf : ∀ n, NP (pf n)
  | 0 => ⟨fun _ _ _ => trivial, fun _ _ => trivial, fun _ _ => trivial, fun _ _ => trivial, fun _ _ => trivial⟩
  | n + 1 => ne_next (ne_pf n)
theorem ne_fn {F : PF} (h : NP F) (ts : List Tk) : Ne (functionP F ts) := by
  unfold functionP
  repeat' (first | exact ne_ok | exact ne_take _ _ | exact ne_loopN _ _ _ | exact h.block _ _ | (refine Ne.bind ?_ fun _ _ => ?_))
theorem ne_loopF {F : PF} (h : NP F) : ∀ n l ts, Ne (loopF F n l ts)
  | 0, _, _ => trivial
  | n + 1, l, ts => by
    unfold loopF
    split
    · exact ne_ok
    · exact Ne.bind (ne_fn h _) fun _ _ => ne_loopF h n _ _
theorem parse_ne {l : Bs} {fuel : Nat} {e : Int} {p : Nat} (h : parseP l fuel = .err e p) : e ≠ 0 := by
  have key : Ne (parseP l fuel) := by
    unfold parseP
    exact Ne.bind (ne_step _ _) fun _ _ => Ne.bind (ne_fn (ne_pf _) _) fun _ _ => ne_loopF (ne_pf _) _ _ _
  rw [h] at key
  exact key
end Go.Tx
namespace Go.Proofs.YtfnjodpehomgfaaGreatDoor
open Go Go.Sh Go.Tx
attribute [local irreducible] Blk Ext RdS
theorem pr_ne {l : Bs} {e : Int} {p : Nat} (h : PR l = .err e p) : e ≠ 0 := by
  unfold PR at h
  split at h
  · cases h; decide
  · exact parse_ne h
end Go.Proofs.YtfnjodpehomgfaaGreatDoor
namespace Go.Sh
section
variable {S : Nat → Prop} {w0 w : World} {Γ : List Ck} {c : Ck}
abbrev ch (S : Nat → Prop) (P : World → Prop) : Ck := ⟨S, P, true, false⟩
theorem Hp.cj {S1 S2 : Nat → Prop} {P1 P2 : World → Prop} (H : Hp S w0 w (ch S1 P1 :: ch S2 P2 :: Γ)) : Hp S w0 w (ch (fun k => S1 k ∨ S2 k) (fun w => P1 w ∧ P2 w) :: Γ) :=
  Hp.join2 H rfl rfl (.inl rfl) (fun k hk => hk) (fun hd h1 h2 => ⟨⟨h1.holds, h2.holds⟩, fun k hk => hk.elim (h1.lt k) (h2.lt k), fun w' hs hb => ⟨h1.loc w' hs fun k hk => hb k (.inl hk), h2.loc w' hs fun k hk => hb k (.inr hk)⟩⟩)
theorem Hp.cm {P' : World → Prop} (H : Hp S w0 w (c :: Γ)) (h : ∀ w, c.P w → P' w) (hc : c.own = true := by rfl) : Hp S w0 w (ch c.fp P' :: Γ) :=
  Hp.less H hc (fun k hk => hk) (fun ok => ⟨h _ ok.holds, ok.lt, fun w' hs hb => h _ (ok.loc w' hs hb)⟩)
theorem Hp.c0 (H : Hp S w0 w Γ) : Hp S w0 w (ch (fun _ => False) (fun _ => True) :: Γ) :=
  H.fr0 (Hp.one (Tch.refl _ _) ⟨trivial, fun k hk => hk.elim, fun _ _ _ => trivial⟩ (fun k hk => hk.elim)) (.inl rfl)
end
end Go.Sh
namespace Go.Proofs.YtfnjodpehomgfaaGreatDoor
open Go Go.Sh Go.Tx
attribute [local irreducible] Blk Ext RdS
def spareE : ET := .mk 99 0 0 [115, 112, 97, 114, 101] [] none 0 []
def emptyE : ET := .mk 0 0 0 [] [] none 0 []
mutual
def ET.Mk (w : World) : ET → Prop
  | .mk _ _ n nm cb A c ks => (ks ≠ [] → RdS ET.enc 6 w A (ks ++ [spareE]) ∧ ks.length < c) ∧ ET.Mks w ks ∧ ks.length ≤ 9000000 ∧ nm.length ≤ 9000000 ∧ cb.length ≤ 9000000 ∧ -9223372036854775808 ≤ n ∧ n ≤ 9223372036854775807
def ET.Mks (w : World) : List ET → Prop
  | [] => True
  | x :: r => ET.Mk w x ∧ ET.Mks w r
end
theorem ET.mks_app (w : World) : ∀ l m : List ET, ET.Mks w (l ++ m) ↔ ET.Mks w l ∧ ET.Mks w m
  | [], m => by simp [ET.Mks]
  | x :: r, m => by simp [ET.Mks, ET.mks_app w r m, and_assoc]
theorem rds_front {α : Type} {enc : α → List Value} {sz : Nat} {w : World} {A : Option Addr} {l m : List α} (h : RdS enc sz w A (l ++ m)) : RdS enc sz w A l := by
  have := RdS.take (k := l.length) h
  rwa [List.take_left] at this
mutual
theorem ET.Mk.rd {w : World} : ∀ {t : ET}, ET.Mk w t → ET.Rd w t
  | .mk _ _ _ _ _ _ _ ks, h => ⟨by
      by_cases hk : ks = []
      · subst hk; exact RdS.nil
      · exact rds_front (h.1 hk).1, ET.Mks.rd h.2.1, h.2.2⟩
theorem ET.Mks.rd {w : World} : ∀ {l : List ET}, ET.Mks w l → ET.Rds w l
  | [], _ => trivial
  | _ :: _, h => ⟨ET.Mk.rd h.1, ET.Mks.rd h.2⟩
end
theorem ET.es_takeD {l : List ET} {i : Nat} {x : ET} (h : l[i]? = some x) : ET.es (l.take (i + 1)) = ET.es (l.take i) ++ [x.e] := by
  obtain ⟨h1, h2⟩ := List.getElem?_eq_some_iff.1 h
  rw [List.take_succ_eq_append_getElem h1, h2, ET.es_app]; rfl
theorem set_rep {α : Type} {l : List α} {x z : α} {k i : Nat} (h : l.length = i) : (l ++ List.replicate (k + 1) z).set i x = l ++ [x] ++ List.replicate k z := by
  subst h
  rw [List.set_append_right _ _ (Nat.le_refl _), Nat.sub_self, List.replicate_succ, List.set_cons_zero, List.append_assoc]; rfl
set_option maxHeartbeats 4000000 in
theorem twin_c : ∀ (N : Nat) (t : ET) (w : World), ET.ht t ≤ N → ET.Rd w t →
    Cl Tryz.prog 67 #[t.v] w (fun v w' => ∃ (t' : ET) (S : Nat → Prop), v = t'.v ∧ t'.e = t.e ∧ Hp nw w w' [ch S (fun w => ET.Mk w t')]) (fun _ _ => False)
  | 0, t, w, hN, _ => by cases t; simp [ET.ht] at hN
  | N + 1, .mk kd o n nm cb A c ks, w, hN, hR => by
    obtain ⟨hr, hrs, hlen, hnm, hcb, hn0, hn1⟩ := hR
    refine calls_ex (args := [.agg #[.int .i64 kd, .int .i64 o, .int .i64 n, .string (bs nm), .string (bs cb), .slice A ks.length c]]) T.ok Tryz.func67 rfl rfl rfl rfl ?_
    have H := Hp.begin nw w
    refine Sq.mk ?_
    ((conv => whnf); refine Al.hp H ?_; clear H; intro p1 _ H _)
    ((conv => whnf); refine Al.hp H ?_; clear H; intro p2 _ H _)
    by_cases hk0 : ks = []
    · subst hk0
      repeat' ((conv => whnf); first | refine ztS ?_ | (refine ztB ?_ ?_ <;> intro _ <;> try (exfalso; omega)) | (refine ztA ?_; clear H; intro _ _ H _) | fail)
      all_goals first | (exfalso; omega) | skip
      refine ⟨.mk kd o n nm cb A c [], fun _ => False, rfl, rfl, ?_⟩
      exact (Hp.cm (Hp.c0 H) (fun w _ => ⟨fun h => absurd rfl h, trivial, hlen, hnm, hcb, hn0, hn1⟩)).sel [0] rfl
    have hpos := List.length_pos_iff.2 hk0
    have hn1' : IntKind.i64.wrap ((ks.length : Int) + 1) = ((ks.length + 1 : Nat) : Int) := w64 rfl (by omega) (by omega)
    repeat' ((conv => whnf); first | refine ztS ?_ | (refine ztB ?_ ?_ <;> intro _ <;> try (exfalso; omega)) | (refine ztW ?_; clear H; intro _ _ H _) | fail)
    all_goals first | (exfalso; omega) | skip
    refine Sm.makeh (z := emptyE) (enc := ET.enc) (n := ks.length + 1) H T.ok ?_ ?_ (fun p3 w3 H hp3 => ?_) rfl rfl rfl hn1' hn1'
    · show 80 * (ks.length + 1) ≤ _; omega
    · omega
    replace H := Hp.bq H (fun x hx => ET.enc_len x)
    rw [List.length_replicate] at H
    repeat' ((conv => whnf); first | refine ztS ?_ | (refine ztB ?_ ?_ <;> intro _ <;> try (exfalso; omega)) | (refine ztW ?_; clear H; intro _ _ H _) | fail)
    refine Lp.g0 T.ok (σ := Nat × List ET × (Nat → Prop)) (fun s => [(5, .int .i64 (s.1 : Int)), (4, .slice (some ⟨p3, 0, none⟩) (ks.length + 1) (ks.length + 1)), (3, .int .i64 (ks.length : Int)), (2, .pointer (some ⟨p2, 0, none⟩)), (1, .pointer (some ⟨p1, 0, none⟩))])
      (fun s w' => s.1 ≤ ks.length ∧ s.2.1.length = s.1 ∧ ET.es s.2.1 = ET.es (ks.take s.1) ∧ Hp nw w w' [qu ET.enc 6 74 (some ⟨p3, 0, none⟩) (ks.length + 1) (s.2.1 ++ List.replicate (ks.length - s.1 + 1) emptyE), ch s.2.2 (fun w => ET.Mks w s.2.1), bk p2 74 emptyE.enc, bk p1 74 [.int .i64 kd, .int .i64 o, .int .i64 n, .string (bs nm), .string (bs cb), .slice A ks.length c]])
      (fun s _ => ks.length - s.1) (0, [], fun _ => False) rfl ⟨rfl, rfl, rfl, rfl, rfl, trivial⟩ ⟨Nat.zero_le _, rfl, rfl, ?_⟩ ?_
    · exact (Hp.cm (Hp.c0 H) (P' := fun w => ET.Mks w []) (fun w _ => trivial)).sel [1, 0, 0, 0] rfl
    clear H
    rintro ⟨i, l, S⟩ w5 ⟨hi, hl, hes, H⟩
    dsimp only at hi hl hes H ⊢
    by_cases hlt : i < ks.length
    · obtain ⟨x, hx⟩ : ∃ x, ks[i]? = some x := ⟨_, List.getElem?_eq_getElem hlt⟩
      have hxm := List.mem_of_getElem? hx
      have hxr := ET.rds_mem hxm hrs
      have hxh := ET.ht_mem hxm
      have hti := ET.es_takeD hx
      simp only [ET.ht] at hN
      have hr1 := RdS.from H.e hr
      obtain ⟨kx, ox, nx, mx, cx, Ax, cpx, lx⟩ := x
      repeat' ((conv => whnf); first | refine ztS ?_ | (refine ztB ?_ ?_ <;> intro _ <;> try (exfalso; omega)) | (refine ztW ?_; clear H; intro _ _ H _) | fail)
      all_goals first | (exfalso; omega) | skip
      ((conv => whnf); refine Cl.mk (twin_c N (.mk kx ox nx mx cx Ax cpx lx) _ (by omega) (hxr.ext H.e)) ?_)
      rintro _ w6 ⟨⟨ky, oy, ny, my, cy, Ay, cpy, ly⟩, S2, rfl, he, H'⟩
      replace H := H.fr0 H' (.inl rfl)
      clear H'
      have hlenl : (l ++ List.replicate (ks.length - i + 1) emptyE).length = ks.length + 1 := by simp only [List.length_append, List.length_replicate]; omega
      have hset := set_rep (z := emptyE) (x := ET.mk ky oy ny my cy Ay cpy ly) (k := ks.length - i) hl
      rw [← hlenl]
      repeat' ((conv => whnf); first | refine ztS ?_ | (refine ztB ?_ ?_ <;> intro _ <;> try (exfalso; omega)) | (refine ztW ?_; clear H; intro _ _ H _) | fail)
      refine St.elq (enc := ET.enc) (x := .mk ky oy ny my cy Ay cpy ly) H rfl (by rw [hlenl]; omega) rfl (fun w7 H => ?_)
      simp only [List.cons_append, List.nil_append] at H
      rw [hset] at H
      repeat' ((conv => whnf); first | refine ztS ?_ | (refine ztB ?_ ?_ <;> intro _ <;> try (exfalso; omega)) | (refine ztW ?_; clear H; intro _ _ H _) | fail)
      have H2 := Hp.cj (H.sel [0, 1, 0, 0, 0] rfl)
      have H3 := Hp.cm H2 (P' := fun w => ET.Mks w (l ++ [.mk ky oy ny my cy Ay cpy ly])) (fun w h => (ET.mks_app w l _).2 ⟨h.2, h.1, trivial⟩)
      rw [show ks.length - i = ks.length - (i + 1) + 1 by omega] at H3
      rw [hlenl]
      refine ⟨(i + 1, l ++ [.mk ky oy ny my cy Ay cpy ly], fun k => S2 k ∨ S k), ⟨at_int (m := ((i + 1 : Nat) : Int)) rfl (w64 (by simp) (by omega) (by omega)), rfl, rfl, rfl, rfl, trivial⟩, rfl, ⟨hlt, by simp [hl], ?_, H3.sel [1, 0, 0, 0] rfl⟩, (show ks.length - (i + 1) < ks.length - i by omega)⟩
      show ET.es (l ++ [_]) = ET.es (ks.take (i + 1))
      rw [ET.es_app, hes, hti, ← he]; rfl
    · obtain rfl : i = ks.length := by omega
      rw [List.take_of_length_le (Nat.le_refl _)] at hes
      have hlenl : (l ++ List.replicate (ks.length - ks.length + 1) emptyE).length = ks.length + 1 := by simp only [List.length_append, List.length_replicate]; omega
      have hset := set_rep (z := emptyE) (x := spareE) (k := ks.length - ks.length) hl
      have hrr := H.rdq 0 rfl
      rw [← hlenl]
      repeat' ((conv => whnf); first | refine ztS ?_ | (refine ztB ?_ ?_ <;> intro _ <;> try (exfalso; omega)) | (refine ztW ?_; clear H; intro _ _ H _) | fail)
      all_goals first | (exfalso; omega) | skip
      refine St.elq (enc := ET.enc) (x := spareE) H rfl (by rw [hlenl]; omega) rfl (fun w7 H => ?_)
      rw [hset] at H
      simp only [Nat.sub_self, List.replicate_zero, List.append_nil, List.nil_append] at H
      repeat' ((conv => whnf); first | refine ztS ?_ | (refine ztB ?_ ?_ <;> intro _ <;> try (exfalso; omega)) | (refine ztW ?_; clear H; intro _ _ H _) | fail)
      refine Sm.cutHi T.ok rfl rfl rfl rfl rfl (by rw [hlenl]; omega) ?_
      repeat' ((conv => whnf); first | refine ztS ?_ | (refine ztB ?_ ?_ <;> intro _ <;> try (exfalso; omega)) | (refine ztW ?_; clear H; intro _ _ H _) | fail)
      have H2 := Hp.cj (Hp.cm H (P' := fun w => RdS ET.enc 6 w (some ⟨p3, 0, none⟩) (l ++ [spareE])) (fun w h => Que.rd h))
      have H3 := (Hp.cm H2 (P' := fun w => ET.Mk w (.mk kd o n nm cb (some ⟨p3, 0, none⟩) (ks.length + 1) l)) (fun w h => ⟨fun _ => ⟨h.1, by omega⟩, h.2, by omega, hnm, hcb, hn0, hn1⟩)).sel [0] rfl
      refine ⟨.mk kd o n nm cb (some ⟨p3, 0, none⟩) (ks.length + 1) l, _, ?_, ?_, H3⟩
      · rw [hlenl]
        show Value.agg _ = Value.agg _
        rw [← hl]; rfl
      · simp only [ET.e, hes]
end Go.Proofs.YtfnjodpehomgfaaGreatDoor
namespace Go.Proofs.YtfnjodpehomgfaaGreatDoor
open Go Go.Sh Go.Tx
theorem Ld.rsG {α : Type} {enc : α → List Value} {sz i o n : Nat} {w : World} {A : Option Addr} {l : List α} {x : α} {k : List Value → Prop} (h : RdS enc sz w A l) (hx : l[i]? = some x) (hn : (((enc x).drop o).take n).length = n) (hk : k (((enc x).drop o).take n)) : Ld w (pAdd ((gA A).add (i * sz)) o) n k := by
  obtain ⟨vs, h1, h2, h3⟩ := Rd.at_ h i x hx
  unfold Fl at h2
  subst h2
  refine ⟨_, hn, fun j v hv => ?_, hk⟩
  have hj : j < n := by
    have := (List.getElem?_eq_some_iff.1 hv).1
    omega
  rw [List.getElem?_take_of_lt hj, List.getElem?_drop] at hv
  have := h3 (o + j) v hv
  rw [pAdd_add, add_add]
  rw [Nat.add_assoc]
  exact this
attribute [local irreducible] Blk Ext RdS
theorem SM.rds_app (w : World) : ∀ l m : List SM, SM.Rds w (l ++ m) ↔ SM.Rds w l ∧ SM.Rds w m
  | [], m => by simp [SM.Rds]
  | x :: r, m => by simp [SM.Rds, SM.rds_app w r m, and_assoc]
theorem SM.es_take {l : List SM} {i : Nat} {x : SM} (h : l[i]? = some x) : SM.es (l.take (i + 1)) = SM.es (l.take i) ++ [x.e] := by
  obtain ⟨h1, h2⟩ := List.getElem?_eq_some_iff.1 h
  rw [List.take_succ_eq_append_getElem h1, h2, SM.es_app]; rfl
def SCopy (B : Option Addr) (l : List SM) (w : World) : Prop := RdS SM.enc 10 w B l ∧ SM.Rds w l
set_option maxHeartbeats 8000000 in
theorem twins_c : ∀ (N : Nat) (B : Option Addr) (c : Nat) (l : List SM) (w : World), SM.hts l < N → RdS SM.enc 10 w B l → SM.Rds w l → l.length ≤ 9000000 →
    Cl Tryz.prog 49 #[.slice B l.length c] w (fun v w' => ∃ (B' : Option Addr) (c' : Nat) (l' : List SM) (S : Nat → Prop), v = .slice B' l'.length c' ∧ SM.es l' = SM.es l ∧ Hp nw w w' [ch S (SCopy B' l')]) (fun _ _ => False)
  | 0, _, _, _, _, hN, _, _, _ => by omega
  | N + 1, B, c, l, w, hN, hr, hrs, hlen => by
    refine calls_ex (args := [.slice B l.length c]) T.ok Tryz.func49 rfl rfl rfl rfl ?_
    have H := Hp.begin nw w
    repeat' ((conv => whnf); first | refine ztS ?_ | (refine ztB ?_ ?_ <;> intro _ <;> try (exfalso; omega)) | (refine ztA ?_; clear H; intro _ _ H _) | fail)
    refine Lp.g0 T.ok (σ := Nat × Option Addr × Nat × List SM × (Nat → Prop)) (fun s => [(4, .int .i64 (s.1 : Int)), (3, .slice s.2.1 s.2.2.2.1.length s.2.2.1), (0, .slice B l.length c)])
      (fun s w' => s.1 ≤ l.length ∧ s.2.2.2.1.length = s.1 ∧ SM.es s.2.2.2.1 = SM.es (l.take s.1) ∧ Hp nw w w' [qu SM.enc 10 76 s.2.1 s.2.2.1 s.2.2.2.1, ch s.2.2.2.2 (fun w => SM.Rds w s.2.2.2.1)])
      (fun s _ => l.length - s.1) (0, none, 0, [], fun _ => False) rfl ⟨rfl, rfl, rfl, trivial⟩ ⟨Nat.zero_le _, rfl, rfl, ?_⟩ ?_
    · exact Hp.nil (Hp.cm (Hp.c0 H) (P' := fun w => SM.Rds w []) (fun w _ => trivial)) SM.enc 10 76
    clear H
    rintro ⟨i, B1, c1, l1, S1⟩ w5 ⟨hi, hl, hes, H⟩
    dsimp only at hi hl hes H ⊢
    by_cases hlt : i < l.length
    · obtain ⟨x, hx⟩ : ∃ x, l[i]? = some x := ⟨_, List.getElem?_eq_getElem hlt⟩
      have hxm := List.mem_of_getElem? hx
      have hxr := SM.rds_mem hxm hrs
      have hxh := SM.ht_mem hxm
      have hti := SM.es_take hx
      have hr1 := RdS.from H.e hr
      obtain ⟨kd, nm, ⟨k1, o1, n1, a1, b1, A1, c2, l2⟩, Bb, cb, bd, E, ce, el⟩ := x
      simp only [SM.ht] at hxh
      obtain ⟨x1, x2, x3, x4, x5, x6, x7, x8⟩ := hxr
      repeat' ((conv => whnf); first | refine ztS ?_ | (refine ztB ?_ ?_ <;> intro _ <;> try (exfalso; omega)) | (refine ztW ?_; clear H; intro _ _ H _) | fail)
      all_goals first | (exfalso; omega) | skip
      ((conv => whnf); refine Al.hp H ?_; clear H; intro p5 _ H _)
      repeat' ((conv => whnf); first | refine ztS ?_ | (refine ztB ?_ ?_ <;> intro _ <;> try (exfalso; omega)) | (refine ztW ?_; clear H; intro _ _ H _) | fail)
      (conv => whnf)
      refine Ld.rsG (o := 2) (n := 6) (RdS.from H.e hr) hx rfl ?_
      ((conv => whnf); refine Cl.mk (twin_c _ (.mk k1 o1 n1 a1 b1 A1 c2 l2) _ (Nat.le_refl _) (x1.ext H.e)) ?_)
      rintro _ w6 ⟨⟨ky, oy, ny, my, cy, Ay, cpy, ly⟩, S2, rfl, he, H'⟩
      replace H := H.fr0 H' (.inl rfl)
      clear H' hr1
      have hr1 := RdS.from H.e hr
      repeat' ((conv => whnf); first | refine ztS ?_ | (refine ztB ?_ ?_ <;> intro _ <;> try (exfalso; omega)) | (refine ztW ?_; clear H; intro _ _ H _) | fail)
      ((conv => whnf); refine Cl.mk (twins_c N Bb cb bd _ (by omega) (RdS.from H.e x2) (SM.Rds.ext H.e x3) x6) ?_)
      rintro _ w7 ⟨B3, c3, l3, S3, rfl, he3, H'⟩
      replace H := H.fr0 H' (.inl rfl)
      clear H' hr1
      have hr1 := RdS.from H.e hr
      repeat' ((conv => whnf); first | refine ztS ?_ | (refine ztB ?_ ?_ <;> intro _ <;> try (exfalso; omega)) | (refine ztW ?_; clear H; intro _ _ H _) | fail)
      ((conv => whnf); refine Cl.mk (twins_c N E ce el _ (by omega) (RdS.from H.e x4) (SM.Rds.ext H.e x5) x7) ?_)
      rintro _ w8 ⟨B4, c4, l4, S4, rfl, he4, H'⟩
      replace H := H.fr0 H' (.inl rfl)
      clear H' hr1
      have h3l : l3.length = bd.length := by have := congrArg List.length he3; rwa [SM.es_len, SM.es_len] at this
      have h4l : l4.length = el.length := by have := congrArg List.length he4; rwa [SM.es_len, SM.es_len] at this
      repeat' ((conv => whnf); first | refine ztS ?_ | (refine ztB ?_ ?_ <;> intro _ <;> try (exfalso; omega)) | (refine ztW ?_; clear H; intro _ _ H _) | fail)
      refine Sm.lith (cs := SM.enc (.mk kd nm (.mk ky oy ny my cy Ay cpy ly) B3 c3 l3 B4 c4 l4)) H T.ok (fun p6 w9 H _ => ?_)
      refine Sm.ap1 (enc := SM.enc) (.mk kd nm (.mk ky oy ny my cy Ay cpy ly) B3 c3 l3 B4 c4 l4) H T.ok ?_ ?_ (fun A' c' w10 H => ?_)
      · show (l1.length + 1) * 152 ≤ _; omega
      · omega
      simp only [List.cons_append, List.nil_append] at H
      repeat' ((conv => whnf); first | refine ztS ?_ | (refine ztB ?_ ?_ <;> intro _ <;> try (exfalso; omega)) | (refine ztW ?_; clear H; intro _ _ H _) | fail)
      have H2 := Hp.cj (Hp.cj (Hp.cj (H.sel [0, 0, 0, 2, 1] rfl)))
      have H3 := Hp.swap (Hp.cm H2 (P' := fun w => SM.Rds w (l1 ++ [.mk kd nm (.mk ky oy ny my cy Ay cpy ly) B3 c3 l3 B4 c4 l4])) (fun w h => (SM.rds_app w l1 [.mk kd nm (.mk ky oy ny my cy Ay cpy ly) B3 c3 l3 B4 c4 l4]).2 ⟨h.2, ⟨ET.Mk.rd h.1.2, h.1.1.2.1, h.1.1.2.2, h.1.1.1.1, h.1.1.1.2, by omega, by omega, x8⟩, trivial⟩))
      refine ⟨(i + 1, A', c', l1 ++ [.mk kd nm (.mk ky oy ny my cy Ay cpy ly) B3 c3 l3 B4 c4 l4], fun k => ((S4 k ∨ S3 k) ∨ S2 k) ∨ S1 k), ⟨at_int (m := ((i + 1 : Nat) : Int)) rfl (w64 (by simp) (by omega) (by omega)), at_val rfl (by simp), rfl, trivial⟩, rfl, ⟨hlt, by simp [hl], ?_, H3⟩, (show l.length - (i + 1) < l.length - i by omega)⟩
      show SM.es (l1 ++ [_]) = SM.es (l.take (i + 1))
      rw [SM.es_app, hes, hti]
      simp only [SM.es, SM.e, he, he3, he4]
    · obtain rfl : i = l.length := by omega
      rw [List.take_of_length_le (Nat.le_refl _)] at hes
      repeat' ((conv => whnf); first | refine ztS ?_ | (refine ztB ?_ ?_ <;> intro _ <;> try (exfalso; omega)) | (refine ztW ?_; clear H; intro _ _ H _) | fail)
      all_goals first | (exfalso; omega) | skip
      have H2 := Hp.cj (Hp.cm H (P' := fun w => RdS SM.enc 10 w B1 l1) (fun w h => Que.rd h))
      exact ⟨B1, c1, l1, _, rfl, hes, Hp.cm H2 (P' := SCopy B1 l1) (fun w h => h)⟩
theorem FM.es_take {l : List FM} {i : Nat} {x : FM} (h : l[i]? = some x) : (l.take (i + 1)).map FM.e = (l.take i).map FM.e ++ [x.e] := by
  obtain ⟨h1, h2⟩ := List.getElem?_eq_some_iff.1 h
  rw [List.take_succ_eq_append_getElem h1, h2, List.map_append]; rfl
def FAll (l : List FM) (w : World) : Prop := ∀ f ∈ l, FM.Rd w f
set_option maxHeartbeats 8000000 in
theorem copied_c (m : List FM) (A : Option Addr) (c : Nat) (w : World) (hr : RdS FM.enc 3 w A m) (hrs : ∀ f ∈ m, FM.Rd w f) (hml : m.length ≤ 9000000) :
    Cl Tryz.prog 22 #[.agg #[.slice A m.length c]] w (fun v w' => ∃ (A' : Option Addr) (c' : Nat) (m' : List FM) (S : Nat → Prop), v = .agg #[.slice A' m'.length c'] ∧ m'.map FM.e = m.map FM.e ∧ Hp nw w w' [qu FM.enc 3 34 A' c' m', ch S (FAll m')]) (fun _ _ => False) := by
  refine calls_ex (args := [.agg #[.slice A m.length c]]) T.ok Tryz.func22 rfl rfl rfl rfl ?_
  have H := Hp.begin nw w
  refine Sq.mk ?_
  ((conv => whnf); refine Al.hp H ?_; clear H; intro p1 _ H _)
  ((conv => whnf); refine Al.hp H ?_; clear H; intro p2 _ H _)
  repeat' ((conv => whnf); first | refine ztS ?_ | (refine ztB ?_ ?_ <;> intro _ <;> try (exfalso; omega)) | (refine ztW ?_; clear H; intro _ _ H _) | fail)
  ((conv => whnf); refine Al.hp H ?_; clear H; intro p3 _ H _)
  repeat' ((conv => whnf); first | refine ztS ?_ | (refine ztB ?_ ?_ <;> intro _ <;> try (exfalso; omega)) | (refine ztW ?_; clear H; intro _ _ H _) | fail)
  refine Lp.g0 T.ok (σ := Nat × Option Addr × Nat × List FM × (Nat → Prop)) (fun s => [(4, .int .i64 (s.1 : Int)), (3, .pointer (some ⟨p3, 0, none⟩)), (2, .pointer (some ⟨p2, 0, none⟩)), (1, .pointer (some ⟨p1, 0, none⟩))])
    (fun s w' => s.1 ≤ m.length ∧ s.2.2.2.1.length = s.1 ∧ s.2.2.2.1.map FM.e = (m.take s.1).map FM.e ∧ Hp nw w w' [qu FM.enc 3 34 s.2.1 s.2.2.1 s.2.2.2.1, ch s.2.2.2.2 (FAll s.2.2.2.1), bk p3 24 [.slice s.2.1 s.2.2.2.1.length s.2.2.1], bk p2 24 [.slice none 0 0], bk p1 24 [.slice A m.length c]])
    (fun s _ => m.length - s.1) (0, none, 0, [], fun _ => False) rfl ⟨rfl, rfl, rfl, rfl, trivial⟩ ⟨Nat.zero_le _, rfl, rfl, ?_⟩ ?_
  · exact Hp.nil (Hp.cm (Hp.c0 H) (P' := FAll []) (fun w _ g hf => by cases hf)) FM.enc 3 34
  clear H
  rintro ⟨i, B1, c1, l1, S1⟩ w5 ⟨hi, hl, hes, H⟩
  dsimp only at hi hl hes H ⊢
  by_cases hlt : i < m.length
  · obtain ⟨f, hx⟩ : ∃ x, m[i]? = some x := ⟨_, List.getElem?_eq_getElem hlt⟩
    have hxm := List.mem_of_getElem? hx
    have hxr := hrs f hxm
    have hti := FM.es_take hx
    have hr1 := RdS.from H.e hr
    obtain ⟨x1, x2, x3, x4, x5, x6, x7, x8⟩ := hxr
    repeat' ((conv => whnf); first | refine ztS ?_ | (refine ztB ?_ ?_ <;> intro _ <;> try (exfalso; omega)) | (refine ztW ?_; clear H; intro _ _ H _) | fail)
    all_goals first | (exfalso; omega) | skip
    ((conv => whnf); refine Al.hp H ?_; clear H; intro p5 _ H _)
    repeat' ((conv => whnf); first | refine ztS ?_ | (refine ztB ?_ ?_ <;> intro _ <;> try (exfalso; omega)) | (refine ztW ?_; clear H; intro _ _ H _) | fail)
    clear hr1
    refine Lp.g0 T.ok (σ := Nat × Option Addr × Nat) (fun s => [(6, .int .i64 (s.1 : Int)), (5, .pointer (some ⟨p5, 0, none⟩)), (4, .int .i64 (i : Int)), (3, .pointer (some ⟨p3, 0, none⟩)), (2, .pointer (some ⟨p2, 0, none⟩)), (1, .pointer (some ⟨p1, 0, none⟩))])
      (fun s w' => s.1 ≤ f.params.length ∧ Hp nw w w' [qu strE 1 9 s.2.1 s.2.2 (f.params.take s.1), bk p5 34 [.string (bs f.name), .slice s.2.1 (f.params.take s.1).length s.2.2, .slice none 0 0], qu FM.enc 3 34 B1 c1 l1, ch S1 (FAll l1), bk p3 24 [.slice B1 l1.length c1], bk p2 24 [.slice none 0 0], bk p1 24 [.slice A m.length c]])
      (fun s _ => f.params.length - s.1) (0, none, 0) rfl ⟨rfl, rfl, rfl, rfl, rfl, rfl, trivial⟩ ⟨Nat.zero_le _, Hp.nil H strE 1 9⟩ ?_
    clear H
    rintro ⟨j, P1, cp1⟩ w6 ⟨hj, H⟩
    dsimp only at hj H ⊢
    have hr1 := RdS.from H.e hr
    by_cases hlt2 : j < f.params.length
    · obtain ⟨q, hq⟩ : ∃ x, f.params[j]? = some x := ⟨_, List.getElem?_eq_getElem hlt2⟩
      have hpt : f.params.take (j + 1) = f.params.take j ++ [q] := by
        obtain ⟨h1, h2⟩ := List.getElem?_eq_some_iff.1 hq
        rw [List.take_succ_eq_append_getElem h1, h2]
      have hpl : (f.params.take j).length = j := by rw [List.length_take]; omega
      repeat' ((conv => whnf); first | refine ztS ?_ | (refine ztB ?_ ?_ <;> intro _ <;> try (exfalso; omega)) | (refine ztW ?_; clear H; intro _ _ H _) | fail)
      all_goals first | (exfalso; omega) | skip
      (conv => whnf)
      refine Dr.ch T.ok mixed [0, 1, 2, 3, 4, 5, 6, 7, 8, 9, 10, 13] [11, 12, 14] (by kernel_rfl) rfl rfl (fun w' => Blk w' p5 34 [.string (bs f.name), .slice P1 (f.params.take j).length cp1, .slice none 0 0] ∧ Blk w' p1 24 [.slice A m.length c] ∧ RdS FM.enc 3 w' A m ∧ RdS strE 1 w' f.P f.params) (fun w1 eT _ => ?_)
      replace H := H.ext eT
      repeat' ((conv => whnf); first | refine ztS ?_ | refine QLd1.own (fun _ hw => hw.1) ?_ | refine QLd1.own (fun _ hw => hw.2.1) ?_ | refine QLd1.rswF (fun _ hw => hw.2.2.1) ?_ hx rfl | refine QLd1.rsw (fun _ hw => hw.2.2.2) ?_ hq rfl)
      (conv => whnf)
      refine ⟨⟨H.blk 1 rfl, H.blk 6 rfl, RdS.from H.e hr, RdS.from H.e x1⟩, ?_⟩
      refine Sm.lith (cs := strE q) H T.ok (fun p6 w2 H _ => ?_)
      (conv => whnf)
      refine ⟨⟨H.blk 2 rfl, H.blk 7 rfl, RdS.from H.e hr, RdS.from H.e x1⟩, ?_⟩
      refine Sm.ap1 (enc := strE) q H T.ok ?_ ?_ (fun A' c' w3 H => ?_)
      · show ((f.params.take j).length + 1) * 16 ≤ _; omega
      · omega
      simp only [List.cons_append, List.nil_append] at H
      (conv => whnf)
      refine ⟨⟨H.blk 1 rfl, H.blk 6 rfl, RdS.from H.e hr, RdS.from H.e x1⟩, ?_⟩
      repeat' ((conv => whnf); first | refine ztS ?_ | (refine ztB ?_ ?_ <;> intro _ <;> try (exfalso; omega)) | (refine ztW ?_; clear H; intro _ _ H _) | fail)
      refine ⟨(j + 1, A', c'), ⟨at_int (m := ((j + 1 : Nat) : Int)) rfl (w64 (by simp) (by omega) (by omega)), rfl, rfl, rfl, rfl, rfl, trivial⟩, rfl, ⟨hlt2, ?_⟩, (show f.params.length - (j + 1) < f.params.length - j by omega)⟩
      dsimp only
      rw [hpt, List.length_append]
      exact H
    · have hje : j = f.params.length := by omega
      subst hje
      rw [List.take_of_length_le (Nat.le_refl _)] at H
      repeat' ((conv => whnf); first | refine ztS ?_ | (refine ztB ?_ ?_ <;> intro _ <;> try (exfalso; omega)) | (refine ztW ?_; clear H; intro _ _ H _) | fail)
      all_goals first | (exfalso; omega) | skip
      ((conv => whnf); refine Cl.mk (twins_c _ f.B f.cb f.body _ (Nat.lt_succ_self _) (RdS.from H.e x2) (SM.Rds.ext H.e x3) x6) ?_)
      rintro _ w7 ⟨B3, c3, l3, S3, rfl, he3, H'⟩
      replace H := H.fr0 H' (.inl rfl)
      clear H'
      have h3l : l3.length = f.body.length := by have := congrArg List.length he3; rwa [SM.es_len, SM.es_len] at this
      repeat' ((conv => whnf); first | refine ztS ?_ | (refine ztB ?_ ?_ <;> intro _ <;> try (exfalso; omega)) | (refine ztW ?_; clear H; intro _ _ H _) | fail)
      refine Sm.lith (cs := FM.enc ⟨f.name, P1, cp1, f.params, B3, c3, l3⟩) H T.ok (fun p6 w9 H _ => ?_)
      refine Sm.ap1 (enc := FM.enc) ⟨f.name, P1, cp1, f.params, B3, c3, l3⟩ H T.ok ?_ ?_ (fun A' c' w10 H => ?_)
      · show (l1.length + 1) * 64 ≤ _; omega
      · omega
      simp only [List.cons_append, List.nil_append] at H
      have hq1 : f.params.length ≤ cp1 := (H.que (enc := strE) 1 rfl).le
      repeat' ((conv => whnf); first | refine ztS ?_ | (refine ztB ?_ ?_ <;> intro _ <;> try (exfalso; omega)) | (refine ztW ?_; clear H; intro _ _ H _) | fail)
      refine ⟨(i + 1, A', c', l1 ++ [⟨f.name, P1, cp1, f.params, B3, c3, l3⟩], fun k => (obk P1 = some k ∨ S3 k) ∨ S1 k), ⟨at_int (m := ((i + 1 : Nat) : Int)) rfl (w64 (by simp) (by omega) (by omega)), rfl, rfl, rfl, trivial⟩, rfl, ⟨hlt, by simp [hl], ?_, ?_⟩, (show m.length - (i + 1) < m.length - i by omega)⟩
      · show (l1 ++ [_]).map FM.e = (m.take (i + 1)).map FM.e
        rw [List.map_append, hes, hti]
        simp only [List.map_cons, List.map_nil, FM.e, he3]
      · have H2 := Hp.cj (Hp.cj (Hp.cm (H.sel [1, 0, 2, 1, 1, 1, 1] rfl) (P' := fun w => RdS strE 1 w P1 f.params) (fun w h => Que.rd h)))
        have H3 := Hp.cm H2 (P' := FAll (l1 ++ [⟨f.name, P1, cp1, f.params, B3, c3, l3⟩])) (fun w h g hf => by
          rcases List.mem_append.1 hf with hf | hf
          · exact h.2 g hf
          · rw [List.mem_singleton.1 hf]
            exact ⟨h.1.1, h.1.2.1, h.1.2.2, x4, hq1, (show l3.length ≤ 9000000 by omega), x7, x8⟩)
        dsimp only
        rw [List.length_append]
        exact Hp.swap H3
  · obtain rfl : i = m.length := by omega
    rw [List.take_of_length_le (Nat.le_refl _)] at hes
    repeat' ((conv => whnf); first | refine ztS ?_ | (refine ztB ?_ ?_ <;> intro _ <;> try (exfalso; omega)) | (refine ztW ?_; clear H; intro _ _ H _) | fail)
    all_goals first | (exfalso; omega) | skip
    exact ⟨B1, c1, l1, S1, rfl, hes, H.sel [0, 0] rfl⟩
end Go.Proofs.YtfnjodpehomgfaaGreatDoor
