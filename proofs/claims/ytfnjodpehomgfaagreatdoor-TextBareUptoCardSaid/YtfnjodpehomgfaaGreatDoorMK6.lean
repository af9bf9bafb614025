/- own work: TsF, TsG, TqA, TqB, TqD, TsI, TsJ -/
import Derived.Test.YtfnjodpehomgfaaGreatDoorMK4
import Derived.Test.YtfnjodpehomgfaaGreatDoorMK5
set_option linter.unusedVariables false
set_option linter.unusedSectionVars false
set_option linter.unusedSimpArgs false
namespace Go.Sh
open Go.RowKit
section
variable {S : Nat → Prop} {w0 w : World} {Γ L R : List Ck} {α : Type} {enc : α → List Value} {sz c : Nat} {e : TypeId} {A : Option Addr} {l m : List α}
theorem Que.front {B : Nat} (h : Que enc sz e w B A c (l ++ m)) : Que enc sz e w B A c l := by
  refine ⟨fun x hx => h.sizes x (List.mem_append_left _ hx), ?_, ?_⟩
  · have := h.le
    rw [List.length_append] at this; omega
  · rcases h.place with h1 | ⟨b, off, cs, hA, hB, hb, hl, hat⟩
    · exact .inl h1
    · refine .inr ⟨b, off, cs, hA, hB, hb, hl, fun j v hv => hat j v ?_⟩
      rw [List.flatMap_append, List.getElem?_append_left (List.getElem?_eq_some_iff.1 hv).1]
      exact hv
theorem Hp.quF (H : Hp S w0 w (qu enc sz e A c (l ++ m) :: Γ)) : Hp S w0 w (qu enc sz e A c l :: Γ) := Hp.less H rfl (fun _ hk => hk) (fun ok => qu_ok (Que.front ok.holds))
theorem St.elqF {i o : Nat} {x x' : α} {vs : List Value} {k : World → Prop} (H : Hp S w0 w Γ) (hx : l[i]? = some x) (hx' : enc x' = putL (enc x) o vs) (ho : o + vs.length ≤ sz) (h1 : vs.all Value.oneCell' = true)
    (hk : ∀ w', Hp S w0 w' (L ++ qu enc sz e A c (l.set i x') :: R) → k w') (u : Sp Γ L (qu enc sz e A c l) R := by (repeat (first | exact Sp.head | apply Sp.tail))) : St w (pAdd ((gA A).add (i * sz)) o) vs k := by
  have hq : Que enc sz e w 0 A c l := H.mem (c := qu enc sz e A c l) (by rw [u.eq]; simp)
  have hi := (List.getElem?_eq_some_iff.1 hx).1
  rcases hq.place with ⟨_, hc⟩ | ⟨b, off, cs, rfl, hB, hb, hfit, hat⟩
  · have := hq.le; omega
  have hlen := flat_len hq.sizes
  have hxs := hq.sizes x (List.mem_of_getElem? hx)
  have h5 : i * sz + sz ≤ l.length * sz := by
    have : (i + 1) * sz ≤ l.length * sz := Nat.mul_le_mul_right sz hi
    rw [Nat.add_mul, Nat.one_mul] at this; exact this
  have h6 : l.length * sz ≤ c * sz := Nat.mul_le_mul_right sz hq.le
  have hx's : (enc x').length = sz := by rw [hx']; unfold putL; simp only [List.length_append, List.length_take, List.length_drop]; omega
  have e1 : pAdd ((gA (some ⟨b, off, none⟩)).add (i * sz)) o = ⟨b, off + i * sz + o, none⟩ := by rw [pAdd_add]; simp only [gA]; rw [add_lit, Nat.add_assoc]
  rw [e1]
  refine St.upd hb (Nat.ble_eq_true_of_le (by omega)) h1 fun w' up hb' => hk w' (H.putS u (Hp.one ((Tch.refl _ _).upd up (.inl rfl)) (qu_ok (Que.of_blk hb' hB ?_ ?_ ?_ ?_)) fun k hk => .inl hk) rfl (.inl rfl))
  · intro y hy
    rcases List.mem_or_eq_of_mem_set hy with h | h
    · exact hq.sizes y h
    · rw [h]; exact hx's
  · rw [List.length_set]; exact hq.le
  · unfold putL; simp only [List.length_append, List.length_take, List.length_drop]; omega
  · intro j v hv
    rw [← putL_el hq.sizes hx's hi, putL_get (by rw [hlen, hx's]; exact h5), hx's] at hv
    rw [putL_get (by omega)]
    split at hv
    · rw [if_pos (by omega)]; exact hat j v hv
    · split at hv
      · rw [hx', putL_get (by omega)] at hv
        have hin : ∀ u, (enc x)[j - i * sz]? = some u → cs[off + j]? = some u := fun u hu => hat j u (by
          have := flatMap_at hq.sizes i x hx (j - i * sz) u hu
          rw [show i * sz + (j - i * sz) = j by omega] at this
          exact this)
        split at hv
        · rw [if_pos (by omega)]; exact hin v hv
        · rw [if_neg (by omega)]
          split at hv
          · rw [if_pos (by omega), show off + j - (off + i * sz + o) = j - i * sz - o by omega]; exact hv
          · rw [if_neg (by omega)]; exact hin v hv
      · rw [if_neg (by omega), if_neg (by omega)]; exact hat j v hv
end
end Go.Sh
namespace Go.Proofs.YtfnjodpehomgfaaGreatDoor
open Go Go.Sh Go.Tx
attribute [local irreducible] Blk Ext RdS
structure BF where
  A : Option Addr
  ca : Nat
  ks : List ET
  B : Option Addr
  cb : Nat
  l : List SM
  i : Nat
  deep : Int
def BF.enc (f : BF) : List Value := [.slice f.A f.ks.length f.ca, .slice f.B f.l.length f.cb, .int .i64 (f.i : Int), .int .i64 f.deep]
def BF.wt (f : BF) : Nat := 1 + 2 * nEs (ET.es (f.ks.drop f.i)) + 4 * nSs (SM.es (f.l.drop (f.i - f.ks.length)))
def wts : List BF → Nat
  | [] => 0
  | f :: r => f.wt + wts r
theorem wts_app : ∀ a b : List BF, wts (a ++ b) = wts a + wts b
  | [], b => by simp [wts]
  | f :: r, b => by simp only [List.cons_append, wts, wts_app r b]; omega
theorem wts_len : ∀ l : List BF, l.length ≤ wts l
  | [] => Nat.le_refl _
  | f :: r => by have := wts_len r; simp only [List.length_cons, wts, BF.wt]; omega
abbrev Lits := List (Nat × ET)
def LOk (L : Lits) (w : World) : Prop := ∀ x ∈ L, Blk w x.1 74 x.2.enc
structure BF.Ok (w0 : World) (L : Lits) (f : BF) : Prop where
  ks : ET.Rds w0 f.ks
  l : SM.Rds w0 f.l
  A : RdS ET.enc 6 w0 f.A f.ks ∨ ∃ p e, (p, e) ∈ L ∧ f.A = some ⟨p, 0, none⟩ ∧ f.ks = [e]
  B : RdS SM.enc 10 w0 f.B f.l
  kl : f.ks.length ≤ 9000000
  ll : f.l.length ≤ 9000000
  il : f.i ≤ f.ks.length + f.l.length
theorem BF.Ok.more {w0 : World} {L : Lits} {f : BF} (h : BF.Ok w0 L f) (x : Nat × ET) : BF.Ok w0 (x :: L) f :=
  ⟨h.ks, h.l, h.A.imp id (fun ⟨p, e, h1, h2⟩ => ⟨p, e, List.mem_cons_of_mem _ h1, h2⟩), h.B, h.kl, h.ll, h.il⟩
theorem BF.Ok.rd {w0 w : World} {L : Lits} {f : BF} (h : BF.Ok w0 L f) (e : Ext w0 w) (hL : LOk L w) : RdS ET.enc 6 w f.A f.ks := by
  rcases h.A with h1 | ⟨p, x, h1, h2, h3⟩
  · exact RdS.from e h1
  · rw [h2, h3]
    exact rd_full (by have := hL (p, x) h1; simpa using this) (by intro y hy; exact ET.enc_len y)
theorem es_drop {l : List ET} {i : Nat} {x : ET} (h : l[i]? = some x) : nEs (ET.es (l.drop i)) = nE x.e + nEs (ET.es (l.drop (i + 1))) := by
  obtain ⟨h1, h2⟩ := List.getElem?_eq_some_iff.1 h
  rw [List.drop_eq_getElem_cons h1, h2]; rfl
theorem ss_drop {l : List SM} {i : Nat} {x : SM} (h : l[i]? = some x) : nSs (SM.es (l.drop i)) = nS x.e + nSs (SM.es (l.drop (i + 1))) := by
  obtain ⟨h1, h2⟩ := List.getElem?_eq_some_iff.1 h
  rw [List.drop_eq_getElem_cons h1, h2]; rfl
theorem wt_kid {f : BF} {kd o n : Int} {nm cb : Bs} {A : Option Addr} {c : Nat} {ks : List ET} (hx : f.ks[f.i]? = some (.mk kd o n nm cb A c ks)) (d : Int) : BF.wt { f with i := f.i + 1 } + BF.wt ⟨A, c, ks, none, 0, [], 0, d⟩ < BF.wt f := by
  have h1 := es_drop hx
  have h2 := (List.getElem?_eq_some_iff.1 hx).1
  simp only [BF.wt, ET.e, nE, List.drop_zero, Nat.zero_sub, List.drop_nil, SM.es, nSs] at h1 ⊢
  rw [show f.i + 1 - f.ks.length = 0 by omega, show f.i - f.ks.length = 0 by omega]
  omega
theorem wt_stm {f : BF} {kd : Int} {nm : Bs} {e : ET} {B E : Option Addr} {cb ce : Nat} {b el : List SM} (hk : ¬ f.i < f.ks.length) (hx : f.l[f.i - f.ks.length]? = some (.mk kd nm e B cb b E ce el)) (A : Option Addr) (d : Int) : BF.wt { f with i := f.i + 1 } + BF.wt ⟨A, 1, [e], none, 0, [], 0, d⟩ + BF.wt ⟨none, 0, [], B, cb, b, 0, d⟩ + BF.wt ⟨none, 0, [], E, ce, el, 0, d⟩ < BF.wt f := by
  have h1 := ss_drop hx
  simp only [BF.wt, ET.es, nEs, SM.e, nS, List.drop_zero, Nat.zero_sub, List.drop_nil, SM.es, nSs, List.length_nil, Nat.sub_zero] at h1 ⊢
  rw [show f.i + 1 - f.ks.length = f.i - f.ks.length + 1 by omega, List.drop_of_length_le (l := f.ks) (i := f.i + 1) (by omega), List.drop_of_length_le (l := f.ks) (i := f.i) (by omega)]
  simp only [ET.es, nEs]
  omega
theorem LOk.one {S : Nat → Prop} {w0 w : World} {Γ : List Ck} {p : Nat} {e : ET} {L : Lits} {s : Nat → Prop} (H : Hp S w0 w (bk p 74 e.enc :: ch s (LOk L) :: Γ)) : Hp S w0 w (ch (fun k => k = p ∨ s k) (LOk ((p, e) :: L)) :: Γ) :=
  Hp.cm (Hp.cj (Hp.cm H (P' := fun w => Blk w p 74 e.enc) (fun w h => h))) (fun w h x hx => by
    rcases List.mem_cons.1 hx with rfl | hx
    · exact h.1
    · exact h.2 x hx)
set_option maxHeartbeats 8000000 in
theorem beyond_c (m : List FM) (A : Option Addr) (c : Nat) (w : World) (hr : RdS FM.enc 3 w A m) (hrs : ∀ f ∈ m, FM.Rd w f) (hml : m.length ≤ 9000000) (hN : nP (m.map FM.e) ≤ 2097152) :
    Cl Tryz.prog 16 #[.agg #[.slice A m.length c]] w (fun v w' => ∃ b, v = .bool b ∧ Ext w w') (fun _ _ => False) := by
  refine calls_ex (args := [.agg #[.slice A m.length c]]) T.ok Tryz.func16 rfl rfl rfl rfl ?_
  have H := Hp.begin nw w
  refine Sq.mk ?_
  ((conv => whnf); refine Al.hp H ?_; clear H; intro p1 _ H _)
  repeat' ((conv => whnf); first | refine ztS ?_ | (refine ztB ?_ ?_ <;> intro _ <;> try (exfalso; omega)) | (refine ztW ?_; clear H; intro _ _ H _) | fail)
  refine Lp.g0 T.ok (σ := Nat × Int × Option Addr × Nat × List BF) (fun s => [(5, .int .i64 (s.1 : Int)), (4, .slice s.2.2.1 s.2.2.2.2.length s.2.2.2.1), (3, .int .i64 s.2.1), (2, .bool false), (1, .pointer (some ⟨p1, 0, none⟩))])
    (fun s w' => s.1 ≤ m.length ∧ wts s.2.2.2.2 + 4 * nP ((m.drop s.1).map FM.e) ≤ 8388608 ∧ (∀ f ∈ s.2.2.2.2, BF.Ok w [] f) ∧ Hp nw w w' [qu BF.enc 4 81 s.2.2.1 s.2.2.2.1 s.2.2.2.2, bk p1 24 [.slice A m.length c]])
    (fun s _ => m.length - s.1) (0, 0, none, 0, []) rfl ⟨rfl, rfl, rfl, rfl, rfl, trivial⟩ ⟨Nat.zero_le _, by simp only [wts, List.drop_zero]; omega, fun f hf => (by cases hf), Hp.nil H BF.enc 4 81⟩ ?_
  clear H
  rintro ⟨i, n, F, cF, fs⟩ w5 ⟨hi, hW, hfs, H⟩
  dsimp only at hi hW hfs H ⊢
  have hlf := wts_len fs
  have hr1 := RdS.from H.e hr
  by_cases hlt : i < m.length
  · obtain ⟨f, hx⟩ : ∃ x, m[i]? = some x := ⟨_, List.getElem?_eq_getElem hlt⟩
    have hdr : m.drop i = f :: m.drop (i + 1) := by
      obtain ⟨h1, h2⟩ := List.getElem?_eq_some_iff.1 hx
      rw [List.drop_eq_getElem_cons h1, h2]
    obtain ⟨x1, x2, x3, x4, x5, x6, x7, x8⟩ := hrs f (List.mem_of_getElem? hx)
    rw [hdr] at hW
    simp only [List.map_cons, nP, FM.e] at hW
    repeat' ((conv => whnf); first | refine ztS ?_ | (refine ztB ?_ ?_ <;> intro _ <;> try (exfalso; omega)) | (refine ztW ?_; clear H; intro _ _ H _) | fail)
    all_goals first | (exfalso; omega) | skip
    ((conv => whnf); refine Al.hp H ?_; clear H; intro p6 _ H _)
    repeat' ((conv => whnf); first | refine ztS ?_ | (refine ztB ?_ ?_ <;> intro _ <;> try (exfalso; omega)) | (refine ztW ?_; clear H; intro _ _ H _) | fail)
    clear hr1
    refine Lp.g0 T.ok (σ := Nat × Int) (fun s => [(7, .int .i64 (s.1 : Int)), (6, .pointer (some ⟨p6, 0, none⟩)), (5, .int .i64 (i : Int)), (4, .slice F fs.length cF), (3, .int .i64 s.2), (2, .bool false), (1, .pointer (some ⟨p1, 0, none⟩))])
      (fun s w' => s.1 ≤ f.params.length ∧ Hp nw w w' [bk p6 34 (FM.enc f), qu BF.enc 4 81 F cF fs, bk p1 24 [.slice A m.length c]])
      (fun s _ => f.params.length - s.1) (0, _) rfl ⟨rfl, rfl, rfl, rfl, rfl, rfl, rfl, trivial⟩ ⟨Nat.zero_le _, H⟩ ?_
    clear H
    rintro ⟨j, n2⟩ w6 ⟨hj, H⟩
    dsimp only at hj H ⊢
    by_cases hlt2 : j < f.params.length
    · obtain ⟨q, hq⟩ : ∃ x, f.params[j]? = some x := ⟨_, List.getElem?_eq_getElem hlt2⟩
      have hr2 := RdS.from H.e x1
      repeat' ((conv => whnf); first | refine ztS ?_ | (refine ztB ?_ ?_ <;> intro _ <;> try (exfalso; omega)) | (refine ztW ?_; clear H; intro _ _ H _) | fail)
      all_goals first | (exfalso; omega) | skip
      exact ⟨(j + 1, _), ⟨at_int (m := ((j + 1 : Nat) : Int)) rfl (w64 (by simp) (by omega) (by omega)), rfl, rfl, rfl, rfl, rfl, rfl, trivial⟩, rfl, ⟨hlt2, H⟩, (show f.params.length - (j + 1) < f.params.length - j by omega)⟩
    · repeat' ((conv => whnf); first | refine ztS ?_ | (refine ztB ?_ ?_ <;> intro _ <;> try (exfalso; omega)) | (refine ztW ?_; clear H; intro _ _ H _) | fail)
      all_goals first | (exfalso; omega) | skip
      refine Sm.lith (cs := BF.enc ⟨none, 0, [], f.B, f.cb, f.body, 0, 1⟩) H T.ok (fun p7 w7 H _ => ?_)
      refine Sm.ap1 (enc := BF.enc) ⟨none, 0, [], f.B, f.cb, f.body, 0, 1⟩ H T.ok ?_ ?_ (fun A' c' w8 H => ?_)
      · show (fs.length + 1) * 64 ≤ _; omega
      · omega
      simp only [List.cons_append, List.nil_append] at H
      repeat' ((conv => whnf); first | refine ztS ?_ | (refine ztB ?_ ?_ <;> intro _ <;> try (exfalso; omega)) | (refine ztW ?_; clear H; intro _ _ H _) | fail)
      refine ⟨(i + 1, n2, A', c', fs ++ [⟨none, 0, [], f.B, f.cb, f.body, 0, 1⟩]), ⟨at_int (m := ((i + 1 : Nat) : Int)) rfl (w64 (by simp) (by omega) (by omega)), at_val rfl (by simp), rfl, rfl, rfl, trivial⟩, rfl, ⟨hlt, ?_, fun g hg => ?_, H.sel [1, 1] rfl⟩, (show m.length - (i + 1) < m.length - i by omega)⟩
      · show wts (fs ++ [_]) + 4 * nP ((m.drop (i + 1)).map FM.e) ≤ _
        rw [wts_app]
        simp only [wts, BF.wt, ET.es, nEs, List.drop_nil, List.drop_zero, Nat.sub_zero, List.length_nil]
        omega
      · rcases List.mem_append.1 hg with hg | hg
        · exact hfs g hg
        · rw [List.mem_singleton.1 hg]
          exact ⟨trivial, x3, .inl RdS.nil, x2, Nat.zero_le _, x6, Nat.zero_le _⟩
  · repeat' ((conv => whnf); first | refine ztS ?_ | (refine ztB ?_ ?_ <;> intro _ <;> try (exfalso; omega)) | (refine ztW ?_; clear H; intro _ _ H _) | fail)
    all_goals first | (exfalso; omega) | skip
    clear hr1
    refine Lp.g0 T.ok (σ := Int × Option Addr × Nat × List BF × Lits × (Nat → Prop)) (fun s => [(4, .slice s.2.1 s.2.2.2.1.length s.2.2.1), (3, .int .i64 s.1), (2, .bool false)])
      (fun s w' => wts s.2.2.2.1 ≤ 8388608 ∧ (∀ f ∈ s.2.2.2.1, BF.Ok w s.2.2.2.2.1 f) ∧ Hp nw w w' [qu BF.enc 4 81 s.2.1 s.2.2.1 s.2.2.2.1, ch s.2.2.2.2.2 (LOk s.2.2.2.2.1)])
      (fun s _ => wts s.2.2.2.1) (n, F, cF, fs, [], fun _ => False) rfl ⟨rfl, rfl, rfl, trivial⟩ ⟨(show wts fs ≤ 8388608 by omega), hfs, (Hp.cm (Hp.c0 H) (P' := LOk []) (fun w _ x hx => by cases hx)).sel [1, 0] rfl⟩ ?_
    clear H hfs hlf hW
    rintro ⟨n, F, cF, fs, L, s⟩ w6 ⟨hW, hfs, H⟩
    dsimp only at hW hfs H ⊢
    have hlf := wts_len fs
    by_cases h0 : fs = []
    · subst h0
      have hl0 : ([] : List BF).length = 0 := rfl
      repeat' ((conv => whnf); first | refine ztS ?_ | (refine ztB ?_ ?_ <;> intro _ <;> try (exfalso; omega)) | (refine ztW ?_; clear H; intro _ _ H _) | fail)
      all_goals first | (exfalso; omega) | skip
      exact ⟨_, rfl, H.e⟩
    obtain ⟨fr, f, rfl⟩ : ∃ fr f, fs = fr ++ [f] := ⟨fs.dropLast, fs.getLast h0, (List.dropLast_concat_getLast h0).symm⟩
    have hfl : (fr ++ [f]).length = fr.length + 1 := by simp
    have hat : (fr ++ [f])[fr.length]? = some f := by simp
    have hfo := hfs f (by simp)
    have hfr : ∀ g ∈ fr, BF.Ok w L g := fun g hg => hfs g (by simp [hg])
    rw [wts_app] at hW hlf
    simp only [wts] at hW hlf
    have htop : IntKind.i64.wrap (((fr ++ [f]).length : Int) - 1) = ((fr.length : Nat) : Int) := w64 (by omega) (by omega) (by omega)
    have hpos : 0 < (fr ++ [f]).length := by omega
    have hltt : fr.length < (fr ++ [f]).length := by omega
    have hfo' := hfo
    obtain ⟨o1, o2, o3, o4, o5, o6, o7⟩ := hfo'
    have hsum : IntKind.i64.wrap ((f.ks.length : Int) + (f.l.length : Int)) = ((f.ks.length + f.l.length : Nat) : Int) := w64 (by simp) (by omega) (by omega)
    repeat' ((conv => whnf); first | refine ztS ?_ | (refine ztB ?_ ?_ <;> intro _ <;> try (exfalso; omega)) | (refine ztW ?_; clear H; intro _ _ H _) | fail)
    all_goals first | (exfalso; omega) | skip
    ((conv => whnf); refine Al.hp H ?_; clear H; intro p9 _ H _)
    by_cases hend : f.i = f.ks.length + f.l.length
    · repeat' ((conv => whnf); first | refine ztS ?_ | (refine ztB ?_ ?_ <;> intro _ <;> try (exfalso; omega)) | (refine ztW ?_; clear H; intro _ _ H _) | fail)
      all_goals first | (exfalso; omega) | skip
      refine Sm.cutHi (i := fr.length) T.ok rfl rfl rfl rfl htop (by have := (H.que (enc := BF.enc) 1 rfl).le; omega) ?_
      repeat' ((conv => whnf); first | refine ztS ?_ | (refine ztB ?_ ?_ <;> intro _ <;> try (exfalso; omega)) | (refine ztW ?_; clear H; intro _ _ H _) | fail)
      replace H := H.sel [1, 1] rfl
      replace H := Hp.quF (l := fr) (m := [f]) H
      refine ⟨(n, F, cF, fr, L, s), ⟨rfl, rfl, rfl, trivial⟩, rfl, ⟨(show wts fr ≤ 8388608 by omega), hfr, H⟩, ?_⟩
      show wts fr < wts (fr ++ [f])
      rw [wts_app]; simp only [wts, BF.wt]; omega
    have hinc : IntKind.i64.wrap ((f.i : Int) + 1) = ((f.i + 1 : Nat) : Int) := w64 rfl (by omega) (by omega)
    have hset : (fr ++ [f]).set fr.length { f with i := f.i + 1 } = fr ++ [{ f with i := f.i + 1 }] := by rw [List.set_append_right _ _ (Nat.le_refl _), Nat.sub_self]; rfl
    have hfi : BF.Ok w L { f with i := f.i + 1 } := ⟨o1, o2, o3, o4, o5, o6, (show f.i + 1 ≤ f.ks.length + f.l.length by omega)⟩
    repeat' ((conv => whnf); first | refine ztS ?_ | (refine ztB ?_ ?_ <;> intro _ <;> try (exfalso; omega)) | (refine ztW ?_; clear H; intro _ _ H _) | fail)
    all_goals first | (exfalso; omega) | skip
    refine St.elqF (enc := BF.enc) (x := f) (x' := { f with i := f.i + 1 }) H hat (by rw [hinc]; rfl) (by show 2 + 1 ≤ 4; decide) rfl (fun w7 H => ?_)
    rw [hset] at H
    simp only [List.cons_append, List.nil_append] at H
    by_cases hk : f.i < f.ks.length
    · obtain ⟨x, hx⟩ : ∃ x, f.ks[f.i]? = some x := ⟨_, List.getElem?_eq_getElem hk⟩
      have hxr := ET.rds_mem (List.mem_of_getElem? hx) o1
      have hra := BF.Ok.rd hfo H.e (H.atC (c := ch s (LOk L)) 2 rfl)
      obtain ⟨kx, ox, nx, mx, cx, Ax, cpx, lx⟩ := x
      obtain ⟨x1, x2, x3, x4⟩ := hxr
      have hwt := wt_kid hx (IntKind.i64.wrap (f.deep + 1))
      repeat' ((conv => whnf); first | refine ztS ?_ | (refine ztB ?_ ?_ <;> intro _ <;> try (exfalso; omega)) | (refine ztW ?_; clear H; intro _ _ H _) | fail)
      all_goals first | exact ⟨_, rfl, H.e⟩ | (exfalso; omega) | skip
      all_goals
        ((conv => whnf); refine Al.hp H ?_; clear H; intro p10 _ H _)
        repeat' ((conv => whnf); first | refine ztS ?_ | (refine ztB ?_ ?_ <;> intro _ <;> try (exfalso; omega)) | (refine ztW ?_; clear H; intro _ _ H _) | fail)
        refine Sm.lith (cs := BF.enc ⟨Ax, cpx, lx, none, 0, [], 0, IntKind.i64.wrap (f.deep + 1)⟩) H T.ok (fun p11 w8 H _ => ?_)
        refine Sm.ap1 (enc := BF.enc) ⟨Ax, cpx, lx, none, 0, [], 0, IntKind.i64.wrap (f.deep + 1)⟩ H T.ok ?_ ?_ (fun A' c' w9 H => ?_)
        · show ((fr ++ [_]).length + 1) * 64 ≤ _; rw [List.length_append]; simp only [List.length_cons, List.length_nil]; omega
        · rw [List.length_append]; simp only [List.length_cons, List.length_nil]; omega
        simp only [List.cons_append, List.nil_append] at H
        repeat' ((conv => whnf); first | refine ztS ?_ | (refine ztB ?_ ?_ <;> intro _ <;> try (exfalso; omega)) | (refine ztW ?_; clear H; intro _ _ H _) | fail)
        refine ⟨(_, A', c', fr ++ [{ f with i := f.i + 1 }] ++ [⟨Ax, cpx, lx, none, 0, [], 0, IntKind.i64.wrap (f.deep + 1)⟩], L, s), ⟨at_val rfl (by simp), rfl, rfl, trivial⟩, rfl, ⟨?_, fun g hg => ?_, H.sel [2, 2] rfl⟩, ?_⟩
        · show wts (fr ++ [_] ++ [_]) ≤ _
          rw [wts_app, wts_app]; simp only [wts]; omega
        · rcases List.mem_append.1 hg with hg | hg
          · rcases List.mem_append.1 hg with hg | hg
            · exact hfr g hg
            · rw [List.mem_singleton.1 hg]; exact hfi
          · rw [List.mem_singleton.1 hg]
            exact ⟨x2, trivial, .inl x1, RdS.nil, x3, Nat.zero_le _, Nat.zero_le _⟩
        · show wts (fr ++ [_] ++ [_]) < wts (fr ++ [f])
          rw [wts_app, wts_app, wts_app]; simp only [wts]; omega
    · obtain ⟨x, hx⟩ : ∃ x, f.l[f.i - f.ks.length]? = some x := ⟨_, List.getElem?_eq_getElem (by omega)⟩
      have hsub : IntKind.i64.wrap ((f.i : Int) - (f.ks.length : Int)) = ((f.i - f.ks.length : Nat) : Int) := w64 (by omega) (by omega) (by omega)
      have hjl : f.i - f.ks.length < f.l.length := by omega
      have hxr := SM.rds_mem (List.mem_of_getElem? hx) o2
      have hra := RdS.from H.e o4
      obtain ⟨kd, nm, ⟨k1, q1, n1, a1, b1, A1, c1, l1⟩, Bb, cb, bd, E, ce, el⟩ := x
      obtain ⟨x1, x2, x3, x4, x5, x6, x7, x8⟩ := hxr
      have hwt := fun pl => wt_stm hk hx (some ⟨pl, 0, none⟩) (IntKind.i64.wrap (f.deep + 1))
      repeat' ((conv => whnf); first | refine ztS ?_ | (refine ztB ?_ ?_ <;> intro _ <;> try (exfalso; omega)) | (refine ztW ?_; clear H; intro _ _ H _) | fail)
      all_goals first | exact ⟨_, rfl, H.e⟩ | (exfalso; omega) | skip
      all_goals
        ((conv => whnf); refine Al.hp H ?_; clear H; intro p10 _ H _)
        repeat' ((conv => whnf); first | refine ztS ?_ | (refine ztB ?_ ?_ <;> intro _ <;> try (exfalso; omega)) | (refine ztW ?_; clear H; intro _ _ H _) | fail)
        refine Sm.lith (cs := ET.enc (.mk k1 q1 n1 a1 b1 A1 c1 l1)) H T.ok (fun pl w8 H _ => ?_)
        repeat' ((conv => whnf); first | refine ztS ?_ | (refine ztB ?_ ?_ <;> intro _ <;> try (exfalso; omega)) | (refine ztW ?_; clear H; intro _ _ H _) | fail)
        refine Sm.lith (cs := BF.enc ⟨some ⟨pl, 0, none⟩, 1, [.mk k1 q1 n1 a1 b1 A1 c1 l1], none, 0, [], 0, IntKind.i64.wrap (f.deep + 1)⟩) H T.ok (fun p11 w8 H _ => ?_)
        refine Sm.ap1 (enc := BF.enc) ⟨some ⟨pl, 0, none⟩, 1, [.mk k1 q1 n1 a1 b1 A1 c1 l1], none, 0, [], 0, IntKind.i64.wrap (f.deep + 1)⟩ H T.ok ?_ ?_ (fun A' c' w9 H => ?_)
        · show ((fr ++ [_]).length + 1) * 64 ≤ _; rw [List.length_append]; simp only [List.length_cons, List.length_nil]; omega
        · rw [List.length_append]; simp only [List.length_cons, List.length_nil]; omega
        simp only [List.cons_append, List.nil_append] at H
        have hf1 : (fr ++ [{ f with i := f.i + 1 }]).length = fr.length + 1 := by simp
        have hF1l : ∀ g, (fr ++ [{ f with i := f.i + 1 }] ++ [(g : BF)]).length = fr.length + 2 := fun g => by simp
        replace hF1l := hF1l ⟨some ⟨pl, 0, none⟩, 1, [.mk k1 q1 n1 a1 b1 A1 c1 l1], none, 0, [], 0, IntKind.i64.wrap (f.deep + 1)⟩
        generalize hF1 : fr ++ [{ f with i := f.i + 1 }] ++ [(⟨some ⟨pl, 0, none⟩, 1, [.mk k1 q1 n1 a1 b1 A1 c1 l1], none, 0, [], 0, IntKind.i64.wrap (f.deep + 1)⟩ : BF)] = F1 at H hF1l ⊢
        repeat' ((conv => whnf); first | refine ztS ?_ | (refine ztB ?_ ?_ <;> intro _ <;> try (exfalso; omega)) | (refine ztW ?_; clear H; intro _ _ H _) | fail)
        refine Sm.lith (cs := BF.enc ⟨none, 0, [], Bb, cb, bd, 0, IntKind.i64.wrap (f.deep + 1)⟩) H T.ok (fun p11 w8 H _ => ?_)
        refine Sm.ap1 (enc := BF.enc) ⟨none, 0, [], Bb, cb, bd, 0, IntKind.i64.wrap (f.deep + 1)⟩ H T.ok ?_ ?_ (fun A'' c'' w9 H => ?_) (hn := by rw [hfl, hF1l])
        · show (_ + 1) * 64 ≤ _; omega
        · omega
        simp only [List.cons_append, List.nil_append] at H
        have hF2l : ∀ g, (F1 ++ [(g : BF)]).length = fr.length + 3 := fun g => by simp [hF1l]
        replace hF2l := hF2l ⟨none, 0, [], Bb, cb, bd, 0, IntKind.i64.wrap (f.deep + 1)⟩
        generalize hF2 : F1 ++ [(⟨none, 0, [], Bb, cb, bd, 0, IntKind.i64.wrap (f.deep + 1)⟩ : BF)] = F2 at H hF2l ⊢
        repeat' ((conv => whnf); first | refine ztS ?_ | (refine ztB ?_ ?_ <;> intro _ <;> try (exfalso; omega)) | (refine ztW ?_; clear H; intro _ _ H _) | fail)
        refine Sm.lith (cs := BF.enc ⟨none, 0, [], E, ce, el, 0, IntKind.i64.wrap (f.deep + 1)⟩) H T.ok (fun p11 w8 H _ => ?_)
        refine Sm.ap1 (enc := BF.enc) ⟨none, 0, [], E, ce, el, 0, IntKind.i64.wrap (f.deep + 1)⟩ H T.ok ?_ ?_ (fun A3 c3 w9 H => ?_) (hn := by rw [hfl, hF2l])
        · show (_ + 1) * 64 ≤ _; omega
        · omega
        simp only [List.cons_append, List.nil_append] at H
        repeat' ((conv => whnf); first | refine ztS ?_ | (refine ztB ?_ ?_ <;> intro _ <;> try (exfalso; omega)) | (refine ztW ?_; clear H; intro _ _ H _) | fail)
        have hwt := hwt pl
        replace H := Hp.swap (LOk.one (L := L) (H.sel [0, 3, 2] rfl))
        refine ⟨(_, A3, c3, F2 ++ [(⟨none, 0, [], E, ce, el, 0, IntKind.i64.wrap (f.deep + 1)⟩ : BF)], (pl, .mk k1 q1 n1 a1 b1 A1 c1 l1) :: L, fun k => k = pl ∨ s k), ⟨at_val rfl (by simp [hF2l]), rfl, rfl, trivial⟩, rfl, ⟨?_, fun g hg => ?_, H⟩, ?_⟩
        · show wts (F2 ++ [_]) ≤ _
          rw [← hF2, ← hF1]
          rw [wts_app, wts_app, wts_app, wts_app]; simp only [wts]; omega
        · dsimp only at hg
          rw [← hF2, ← hF1] at hg
          rcases List.mem_append.1 hg with hg | hg
          · rcases List.mem_append.1 hg with hg | hg
            · rcases List.mem_append.1 hg with hg | hg
              · rcases List.mem_append.1 hg with hg | hg
                · exact (hfr g hg).more _
                · rw [List.mem_singleton.1 hg]; exact hfi.more _
              · rw [List.mem_singleton.1 hg]
                exact ⟨⟨x1, trivial⟩, trivial, .inr ⟨pl, _, List.mem_cons_self .., rfl, rfl⟩, RdS.nil, by simp, Nat.zero_le _, Nat.zero_le _⟩
            · rw [List.mem_singleton.1 hg]
              exact ⟨trivial, x3, .inl RdS.nil, x2, Nat.zero_le _, x6, Nat.zero_le _⟩
          · rw [List.mem_singleton.1 hg]
            exact ⟨trivial, x5, .inl RdS.nil, x4, Nat.zero_le _, x7, Nat.zero_le _⟩
        · show wts (F2 ++ [_]) < wts (fr ++ [f])
          rw [← hF2, ← hF1]
          rw [wts_app, wts_app, wts_app, wts_app, wts_app]; simp only [wts]; omega
end Go.Proofs.YtfnjodpehomgfaaGreatDoor
namespace Go.Proofs.YtfnjodpehomgfaaGreatDoor
open Go Go.Sh Go.Tx
attribute [local irreducible] Blk Ext RdS
mutual
theorem ET.Rd.lo {w : World} : ∀ {t : ET}, ET.Rd w t → ET.Lo w t
  | .mk _ _ _ _ _ _ _ _, h => ⟨h.1, ET.Rds.los h.2.1, h.2.2.1⟩
theorem ET.Rds.los {w : World} : ∀ {l : List ET}, ET.Rds w l → ET.Los w l
  | [], _ => trivial
  | _ :: _, h => ⟨ET.Rd.lo h.1, ET.Rds.los h.2⟩
end
mutual
theorem SM.Rd.lo {w : World} : ∀ {t : SM}, SM.Rd w t → SM.Lo w t
  | .mk _ _ _ _ _ _ _ _ _, h => ⟨h.1.lo, h.2.1, SM.Rds.los h.2.2.1, h.2.2.2.1, SM.Rds.los h.2.2.2.2.1, h.2.2.2.2.2.1, h.2.2.2.2.2.2.1⟩
theorem SM.Rds.los {w : World} : ∀ {l : List SM}, SM.Rds w l → SM.Los w l
  | [], _ => trivial
  | _ :: _, h => ⟨SM.Rd.lo h.1, SM.Rds.los h.2⟩
end
theorem FM.Rd.lo {w : World} {f : FM} (h : FM.Rd w f) : FM.Lo w f := ⟨h.1, h.2.1, SM.Rds.los h.2.2.1, h.2.2.2.1, h.2.2.2.2.2.1⟩
theorem FM.oks_lo {w : World} {l : List FM} (h : FM.Oks w l) : ∀ f ∈ l, FM.Lo w f := fun f hf => (FM.oks_mem hf h).lo
theorem pr_fin (l : Bs) : PR l ≠ .out := by
  unfold PR
  split
  · intro h; cases h
  · intro h
    have := parse_fin l
    rw [h] at this
    exact this
theorem round_law {fs : List Fnc} (h : (printP fs).2 = 0) (hr : ∀ f ∈ fs, rgSs f.body) : printP fs = (whole fs, 0) ∧ treeB fs = true ∧ ∃ ts, PR (whole fs) = .ok fs ts := by
  unfold printP at h ⊢
  by_cases hb : treeB fs = true
  · rw [if_pos hb] at h ⊢
    by_cases he : errOf (PR (whole fs)) = 0
    · rw [if_pos he]
      refine ⟨rfl, hb, ?_⟩
      cases hp : PR (whole fs) with
      | out => exact absurd hp (pr_fin _)
      | err e p => rw [hp] at he; exact absurd he (pr_ne hp)
      | ok a ts =>
        have hp2 : parseP (whole fs) (fuelOf (whole fs)) = .ok a ts := by
          unfold PR at hp
          split at hp
          · cases hp
          · exact hp
        obtain ⟨e, hz⟩ := reads_whole hb hr (fuelOf (whole fs))
        rw [hp2] at hz
        rcases hz with hz | hz | ⟨_, e2, p2, hz⟩
        · cases hz
        · simp only [Res.ok.injEq] at hz
          exact ⟨ts, by rw [hz.1]⟩
        · cases hz
    · rw [if_neg he] at h
      exact absurd h he
  · rw [if_neg hb] at h
    exact absurd h (by decide)
theorem rdy_copy {w w0 : World} {S : Nat → Prop} {Γ : List Ck} {s : Nat → Prop} {m : List FM} {A : Option Addr} {c : Nat} (H : Hp S w0 w (qu FM.enc 3 34 A c m :: ch s (FAll m) :: Γ)) (hl : m.length ≤ 9000000) (hN : nP (m.map FM.e) ≤ 2097152) (hr : ∀ f ∈ m, rgSs (SM.es f.body)) : Rdy w A m :=
  ⟨H.rdq 0 rfl, H.atC (c := ch s (FAll m)) 1 rfl, hl, fit_of hN hr⟩
theorem rg_map {m m' : List FM} (h : m'.map FM.e = m.map FM.e) (hr : ∀ f ∈ m, rgSs (SM.es f.body)) : ∀ f ∈ m', rgSs (SM.es f.body) := fun f hf => by
  have h1 : FM.e f ∈ m.map FM.e := h ▸ List.mem_map_of_mem hf
  obtain ⟨g, hg, he⟩ := List.mem_map.1 h1
  have : (FM.e g).body = (FM.e f).body := by rw [he]
  have h2 := hr g hg
  change SM.es g.body = SM.es f.body at this
  rw [← this]; exact h2
theorem len_map {m m' : List FM} (h : m'.map FM.e = m.map FM.e) : m'.length = m.length := by
  have := congrArg List.length h
  simpa using this
end Go.Proofs.YtfnjodpehomgfaaGreatDoor
namespace Go.Tx
def wb (c : UInt8) : Nat := if c = 40 ∨ c = 45 then 1 else 0
def bw : Bs → Nat
  | [] => 0
  | c :: r => wb c + bw r
theorem bw_app : ∀ a b : Bs, bw (a ++ b) = bw a + bw b
  | [], b => by simp [bw]
  | c :: r, b => by simp only [List.cons_append, bw, bw_app r b]; omega
theorem bw_zero : ∀ {s : Bs}, (∀ c ∈ s, wb c = 0) → bw s = 0
  | [], _ => rfl
  | c :: r, h => by
    have h1 := h c (by simp)
    have h2 : bw r = 0 := bw_zero fun x hx => h x (List.mem_cons_of_mem _ hx)
    simp only [bw, h1, h2]
theorem wb_alnum {c : UInt8} (h : alnum c = true) : wb c = 0 := by
  unfold wb
  rw [if_neg]
  rintro (rfl | rfl)
  · exact absurd h (by decide)
  · exact absurd h (by decide)
theorem bw_wn {s : Bs} (h : Wn s) : bw s = 0 := by
  obtain ⟨c, r, _, _, h4⟩ := wn_shape h
  exact bw_zero fun x hx => wb_alnum (h4 x hx)
theorem bw_name {s : Bs} (h : isNameB s = true) : bw s = 0 := bw_wn (.inl h)
theorem bw_dec (m : Nat) : bw (Go.Lib.decDigits m) = 0 := bw_zero fun c hc => wb_alnum (by
  have := dec_dig m c hc
  unfold alnum
  rw [this, Bool.or_true])
theorem bw_itoa (n : Int) : bw (Go.Lib.itoa n) = if n < 0 then 1 else 0 := by
  unfold Go.Lib.itoa
  split
  · simp only [bw, bw_dec]; rfl
  · exact bw_dec _
theorem bw_tabs (o : Nat) : bw (tabs o) = 0 := bw_zero fun c hc => by rw [List.eq_of_mem_replicate hc]; rfl
def bws : List Bs → Nat
  | [] => 0
  | x :: r => bw x + bws r
theorem bw_join : ∀ l : List Bs, bw (joinC l) = bws l
  | [] => rfl
  | [x] => by simp [joinC, bws]
  | x :: y :: r => by
    have := bw_join (y :: r)
    simp only [joinC, bw_app, bw, this, bws]
    simp [wb]
theorem bws_app : ∀ a b : List Bs, bws (a ++ b) = bws a + bws b
  | [], b => by simp [bws]
  | x :: r, b => by simp only [List.cons_append, bws, bws_app r b]; omega
theorem txEs_app : ∀ a b : List Ex, txEs (a ++ b) = txEs a ++ txEs b
  | [], b => rfl
  | x :: r, b => by simp only [List.cons_append, txEs, txEs_app r b]
theorem bw_par (b : Bool) (t : Bs) : bw (par b t) = bw t + b.toNat := by
  unfold par
  cases b
  · simp
  · simp only [if_true, bw, bw_app]
    simp [wb]; omega
def twt (k : Bs) : Nat := if k = s_lp ∨ k = s_minus then 1 else 0
def tw : List Tk → Nat
  | [] => 0
  | t :: r => twt t.kind + tw r
theorem Po.both {α : Type} {r : Res α} {Q Q' : α → List Tk → Prop} (h : Po r Q) (h' : Po r Q') : Po r (fun a ts => Q a ts ∧ Q' a ts) := by
  cases r with
  | out => exact trivial
  | err e p => exact trivial
  | ok a ts => exact ⟨h, h'⟩
theorem step_tw (m : Bool) (ts : List Tk) : Po (stepP m ts) (fun _ ts' => twt (curK ts) + tw ts' = tw ts) := by
  match ts with
  | [] => exact trivial
  | [_] => exact trivial
  | t :: u :: r =>
    simp only [stepP]
    split
    · exact trivial
    · split
      · exact trivial
      · rfl
theorem step_w (m : Bool) {ts : List Tk} (h : Gd0 ts) : Po (stepP m ts) (fun _ ts' => Gd0 ts' ∧ twt (curK ts) + tw ts' = tw ts ∧ (m = false ∨ curK ts' ≠ k_number → Gd1 ts')) :=
  ((step_po m h).both (step_tw m ts)).mono fun _ _ q => ⟨q.1.1, q.2, q.1.2.2⟩
theorem stepF_w {ts : List Tk} (h : Gd0 ts) : Po (stepP false ts) (fun _ ts' => Gd1 ts' ∧ twt (curK ts) + tw ts' = tw ts) :=
  (step_w false h).mono fun _ _ q => ⟨q.2.2 (.inl rfl), q.2.1⟩
theorem take_w {k : Bs} {ts : List Tk} (h : Gd0 ts) : Po (takeP k ts) (fun t ts' => t = curT ts ∧ curK ts = k ∧ Gd1 ts' ∧ twt k + tw ts' = tw ts) := by
  unfold takeP
  split
  · exact trivial
  · rename_i h0
    have h0 := Classical.not_not.1 h0
    exact Po.bind (stepF_w h) fun _ ts' q => ⟨rfl, h0, q.1, by rw [← h0]; exact q.2⟩
structure PW (F : PF) : Prop where
  expr : ∀ lv d ts, Gd1 ts → Po (F.expr lv d ts) (fun e ts' => Gd1 ts' ∧ bw (txE e) + (decide ((sgE e).2 < lv)).toNat + tw ts' ≤ tw ts)
  unary : ∀ d ts, Gd1 ts → Po (F.unary d ts) (fun e ts' => Gd1 ts' ∧ bw (txE e) + (decide ((sgE e).2 < 8)).toNat + tw ts' ≤ tw ts ∧ (posB e = true → curK ts ≠ k_number → bw (txE e) + 1 + tw ts' ≤ tw ts))
  primary : ∀ d ts, Gd1 ts → Po (F.primary d ts) (fun e ts' => Gd1 ts' ∧ bw (txE e) + (decide ((sgE e).2 < 8)).toNat + tw ts' ≤ tw ts ∧ (posB e = true → curK ts ≠ k_number → bw (txE e) + 1 + tw ts' ≤ tw ts))
  block : ∀ d ts, Gd1 ts → Po (F.block d ts) (fun b ts' => Gd1 ts' ∧ ∀ o, bw (txB o b) + tw ts' ≤ tw ts)
  choice : ∀ d ts, Gd1 ts → Po (F.choice d ts) (fun s ts' => Gd1 ts' ∧ ∀ o, bw (txS o s) + tw ts' ≤ tw ts)
theorem dn_mono {a b c : Nat} (h : b ≤ c) : (decide (a < b)).toNat ≤ (decide (a < c)).toNat := by
  by_cases h1 : a < b
  · rw [decide_eq_true h1, decide_eq_true (show a < c by omega)]; exact Nat.le_refl _
  · rw [decide_eq_false h1]; exact Nat.zero_le _
theorem stands_w {level : Nat} {k : Bs} (h : standsB level k = true) : bw k = twt k ∧ k ≠ [] := by
  obtain ⟨h1, l, h2, h3⟩ := stands_lt h
  have key : ((List.range 8).all fun i => (levels[i]?.getD []).all fun k => decide (bw k = twt k ∧ k ≠ [])) = true := by decide
  have this := List.all_eq_true.1 (List.all_eq_true.1 key level (List.mem_range.2 h1)) k (by rw [h2]; exact h3)
  simpa using this
section
variable {F : PF} (T : PW F)
include T
theorem loopE_w {level d n0 : Nat} : ∀ (n : Nat) (e : Ex) (ts : List Tk), Gd1 ts → bw (txE e) + (decide ((sgE e).2 < level)).toNat + tw ts ≤ n0 →
    Po (loopE F level d n e ts) (fun e ts' => Gd1 ts' ∧ bw (txE e) + (decide ((sgE e).2 < level)).toNat + tw ts' ≤ n0)
  | 0, _, _, _, _ => trivial
  | n + 1, e, ts, hg, hp => by
    unfold loopE
    split
    · rename_i hs
      refine Po.bind (stepF_w hg.toGd0) fun _ ts1 ⟨h1, h2⟩ => ?_
      refine Po.bind (T.expr (level + 1) d ts1 h1) fun r ts2 ⟨h3, h4⟩ => ?_
      obtain ⟨kd, o, hj, hk, hh⟩ := join_of e r hs
      obtain ⟨hw, hne⟩ := stands_w hs
      rw [hj]
      refine loopE_w n _ ts2 h3 ?_
      have hsg : sgE (.mk kd o 0 [] [] [e, r]) = (curK ts, level) := hk
      rw [hsg, decide_eq_false (Nat.lt_irrefl _)]
      have ht : txE (.mk kd o 0 [] [] [e, r]) = par (decide ((sgE e).2 < level)) (txE e) ++ (32 :: (curK ts ++ 32 :: par (decide ((sgE r).2 ≤ level)) (txE r))) := by
        simp only [txE, txN, hk, txEs]
        rw [if_pos hne]; rfl
      rw [ht]
      simp only [bw_app, bw, bw_par, hw]
      rw [show decide ((sgE r).2 ≤ level) = decide ((sgE r).2 < level + 1) from decide_eq_decide.2 (by omega)]
      simp only [wb, Bool.toNat_false, show ¬ ((32 : UInt8) = 40 ∨ (32 : UInt8) = 45) by decide, if_false]
      omega
    · exact ⟨hg, hp⟩
theorem expr_w {level d : Nat} {ts : List Tk} (hg : Gd1 ts) : Po (exprP F level d ts) (fun e ts' => Gd1 ts' ∧ bw (txE e) + (decide ((sgE e).2 < level)).toNat + tw ts' ≤ tw ts) := by
  unfold exprP
  split
  · rename_i h8
    subst h8
    exact (T.unary d ts hg).mono fun e ts' q => ⟨q.1, q.2.1⟩
  · refine Po.bind (T.expr (level + 1) d ts hg) fun e ts1 ⟨h1, h2⟩ => ?_
    exact loopE_w T _ e ts1 h1 (by have := dn_mono (a := (sgE e).2) (show level ≤ level + 1 by omega); omega)
theorem ex0_w {d : Nat} {ts : List Tk} (hg : Gd1 ts) : Po (F.expr 0 d ts) (fun e ts' => Gd1 ts' ∧ bw (txE e) + tw ts' ≤ tw ts) :=
  (T.expr 0 d ts hg).mono fun e ts' q => ⟨q.1, by have := q.2; omega⟩
theorem comma_w {c : Prop} [Decidable c] {ts : List Tk} (hg : Gd1 ts) : Po (if c then (takeP s_comma ts).bind fun _ ts1 => .ok () ts1 else .ok () ts : Res Unit) (fun _ ts' => Gd1 ts' ∧ tw ts' ≤ tw ts) := by
  split
  · exact Po.bind (take_w hg.toGd0) fun _ ts1 q => ⟨q.2.2.1, by have := q.2.2.2; omega⟩
  · exact ⟨hg, Nat.le_refl _⟩
theorem args_w {d n0 : Nat} : ∀ (n : Nat) (l : List Ex) (ts : List Tk), Gd1 ts → bws (txEs l) + tw ts ≤ n0 → Po (argsP F d n l ts) (fun l ts' => Gd1 ts' ∧ bws (txEs l) + tw ts' ≤ n0)
  | 0, _, _, _, _ => trivial
  | n + 1, l, ts, hg, he => by
    unfold argsP
    split
    · exact Po.bind (take_w hg.toGd0) fun _ ts1 q => ⟨q.2.2.1, by have := q.2.2.2; omega⟩
    · refine Po.bind (comma_w T hg) fun _ ts1 ⟨h1, h2⟩ => ?_
      refine Po.bind (ex0_w T h1) fun e ts2 ⟨h3, h4⟩ => ?_
      refine args_w n _ ts2 h3 ?_
      rw [txEs_app, bws_app]
      simp only [txEs, bws]
      omega
theorem kids_w {d n n0 : Nat} : ∀ (m : Nat) (l : List Ex) (ts : List Tk), Gd1 ts → bws (txEs l) + tw ts ≤ n0 → Po (kidsP F d n m l ts) (fun l' ts' => Gd1 ts' ∧ bws (txEs l') + tw ts' ≤ n0)
  | 0, l, ts, hg, he => by
    unfold kidsP
    exact Po.bind (take_w hg.toGd0) fun _ ts1 q => ⟨q.2.2.1, by have := q.2.2.2; omega⟩
  | m + 1, l, ts, hg, he => by
    unfold kidsP
    refine Po.bind (comma_w T hg) fun _ ts1 ⟨h1, h2⟩ => ?_
    refine Po.bind (ex0_w T h1) fun e ts2 ⟨h3, h4⟩ => ?_
    refine kids_w m _ ts2 h3 ?_
    rw [txEs_app, bws_app]
    simp only [txEs, bws]
    omega
omit T in
theorem call_bw {kd o : Int} {nm cb : Bs} {l : List Ex} (h4 : kd = 4 ∧ bw (opNm o) = 0 ∨ kd = 5 ∧ bw nm = 0 ∨ kd = 6 ∧ bw nm = 0 ∧ bw cb = 0 ∨ kd = 7 ∧ bw nm = 0) (hs : sgK kd o = ([], 8)) : bw (txE (.mk kd o 0 nm cb l)) = 1 + bws (txEs l) ∧ (decide ((sgE (.mk kd o 0 nm cb l)).2 < 8)).toNat = 0 ∧ posB (.mk kd o 0 nm cb l) = false := by
  have h2 : sgE (.mk kd o 0 nm cb l) = ([], 8) := hs
  refine ⟨?_, by rw [h2]; rfl, by simp only [posB, Bool.and_eq_false_iff, decide_eq_false_iff_not]; left; omega⟩
  simp only [txE, txN, hs]
  rw [if_neg (by simp), if_neg (by omega), if_neg (by omega), if_neg (by omega), if_neg (by omega)]
  have w40 : wb 40 = 1 := rfl
  have w41 : wb 41 = 0 := rfl
  have w44 : wb 44 = 0 := rfl
  have w32 : wb 32 = 0 := rfl
  have kr : bw k_reduce = 0 := rfl
  have ke : bw k_each = 0 := rfl
  rcases h4 with ⟨rfl, h⟩ | ⟨rfl, h⟩ | ⟨rfl, h, h'⟩ | ⟨rfl, h⟩
  · rw [if_pos rfl]; simp only [bw_app, bw, bw_join, h, w40, w41]; omega
  · rw [if_neg (by decide), if_pos rfl]; simp only [bw_app, bw, bw_join, h, w40, w41]; omega
  · rw [if_neg (by decide), if_neg (by decide), if_pos rfl]; simp only [bw_app, bw, bw_join, h, h', w40, w41, w44, w32, kr]; omega
  · rw [if_neg (by decide), if_neg (by decide), if_neg (by decide)]; simp only [bw_app, bw, bw_join, h, w40, w41, w44, w32, ke]; omega
theorem form_w {k : Bs} {d n0 : Nat} {ts : List Tk} (hg : Gd1 ts) (hk : k = k_min ∨ k = k_max ∨ k = k_reduce ∨ k = k_each) (hl : 1 + tw ts ≤ n0) :
    Po (formP F k (d + 1) ts) (fun e ts' => Gd1 ts' ∧ bw (txE e) + (decide ((sgE e).2 < 8)).toNat + tw ts' ≤ n0 ∧ posB e = false) := by
  have nn : bws (txEs []) = 0 := rfl
  unfold formP
  split
  · refine Po.bind (take_w hg.toGd0) fun f ts1 ⟨hf, h0, h1, h2⟩ => ?_
    refine Po.bind (take_w h1.toGd0) fun _ ts2 ⟨_, _, h3, h4⟩ => ?_
    refine Po.bind (take_w h3.toGd0) fun c ts3 ⟨hc, h5, h6, h7⟩ => ?_
    refine Po.bind (take_w h6.toGd0) fun _ ts4 ⟨_, _, h8, h9⟩ => ?_
    refine Po.bind (kids_w T (n0 := tw ts4) 3 [] ts4 h8 (by rw [nn]; omega)) fun l ts5 ⟨h10, h11⟩ => ?_
    have hfn := name_of hg.toGd0 h0
    have hcn := name_of h3.toGd0 h5
    obtain ⟨a, b, c'⟩ := call_bw (kd := 6) (o := 0) (nm := f.text) (cb := c.text) (l := l) (.inr (.inr (.inl ⟨rfl, by rw [hf]; exact bw_name hfn, by rw [hc]; exact bw_name hcn⟩))) (sgNone (by decide) (by decide) (.inl (by decide)))
    exact ⟨h10, by rw [a, b]; omega, c'⟩
  split
  · refine Po.bind (take_w hg.toGd0) fun f ts1 ⟨hf, h0, h1, h2⟩ => ?_
    refine Po.bind (take_w h1.toGd0) fun _ ts2 ⟨_, _, h3, h4⟩ => ?_
    refine Po.bind (kids_w T (n0 := tw ts2) 2 [] ts2 h3 (by rw [nn]; omega)) fun l ts5 ⟨h10, h11⟩ => ?_
    have hfn := name_of hg.toGd0 h0
    obtain ⟨a, b, c'⟩ := call_bw (kd := 7) (o := 0) (nm := f.text) (cb := []) (l := l) (.inr (.inr (.inr ⟨rfl, by rw [hf]; exact bw_name hfn⟩))) (sgNone (by decide) (by decide) (.inl (by decide)))
    exact ⟨h10, by rw [a, b]; omega, c'⟩
  · rename_i hr he
    refine Po.bind (kids_w T (n0 := tw ts) 2 [] ts hg (by rw [nn]; omega)) fun l ts5 ⟨h10, h11⟩ => ?_
    have hmm : opNm (findOp k) = k ∧ (k = k_min ∨ k = k_max) := by
      rcases hk with rfl | rfl | rfl | rfl
      · exact ⟨by decide, .inl rfl⟩
      · exact ⟨by decide, .inr rfl⟩
      · exact absurd rfl hr
      · exact absurd rfl he
    obtain ⟨a, b, c'⟩ := call_bw (kd := 4) (o := findOp k) (nm := []) (cb := []) (l := l) (.inl ⟨rfl, by rw [hmm.1]; rcases hmm.2 with rfl | rfl <;> rfl⟩) (sgNone (by decide) (by decide) (.inr (by rw [hmm.1]; exact hmm.2)))
    exact ⟨h10, by rw [a, b]; omega, c'⟩
omit T in
theorem leaf_bw {kd n : Int} {nm : Bs} (h : kd = 0 ∨ kd = 1 ∧ bw nm = 0) : bw (txE (.mk kd 0 n nm [] [])) = (if kd = 0 ∧ n < 0 then 1 else 0) ∧ (decide ((sgE (.mk kd 0 n nm [] [])).2 < 8)).toNat = 0 := by
  have hs : sgK kd 0 = ([], 8) := sgNone (by omega) (by omega) (.inl (by omega))
  have h2 : sgE (.mk kd 0 n nm [] []) = ([], 8) := hs
  refine ⟨?_, by rw [h2]; rfl⟩
  simp only [txE, txN, hs]
  rw [if_neg (by simp)]
  rcases h with rfl | ⟨rfl, h⟩
  · rw [if_pos rfl, bw_itoa]; simp
  · rw [if_neg (by decide), if_pos rfl, h]; simp
theorem primary_w {d : Nat} {ts : List Tk} (hg : Gd1 ts) : Po (primaryP F d ts) (fun e ts' => Gd1 ts' ∧ bw (txE e) + (decide ((sgE e).2 < 8)).toNat + tw ts' ≤ tw ts ∧ (posB e = true → curK ts ≠ k_number → bw (txE e) + 1 + tw ts' ≤ tw ts)) := by
  unfold primaryP
  split
  · rename_i hk
    refine Po.bind (stepF_w hg.toGd0) fun _ ts1 ⟨h1, h2⟩ => ?_
    have hn := num_of hg.toGd0
    have hl := hg.least hk
    obtain ⟨a, b⟩ := leaf_bw (kd := 0) (n := negW (curT ts).n) (nm := []) (.inl rfl)
    rw [if_neg (by unfold negW; split <;> omega)] at a
    exact ⟨h1, by rw [a, b]; omega, fun _ h => absurd hk h⟩
  split
  · rename_i hk
    refine Po.bind (stepF_w hg.toGd0) fun _ ts1 ⟨h1, h2⟩ => ?_
    have hn := name_of hg.toGd0 hk
    split
    · obtain ⟨a, b⟩ := leaf_bw (kd := 1) (n := 0) (nm := (curT ts).text) (.inr ⟨rfl, bw_name hn⟩)
      rw [if_neg (by decide)] at a
      exact ⟨h1, by rw [a, b]; omega, fun h => absurd h (by simp [posB])⟩
    · rename_i hlp
      have hlp := Classical.not_not.1 hlp
      refine Po.bind deep_po fun _ ts2 ⟨he, hd⟩ => ?_
      subst he
      refine Po.bind (stepF_w h1.toGd0) fun _ ts3 ⟨h3, h4⟩ => ?_
      rw [hlp, show twt s_lp = 1 from rfl] at h4
      refine Po.bind (args_w T (n0 := tw ts3) (ts3.length + 1) [] ts3 h3 (by rw [show bws (txEs []) = 0 from rfl]; omega)) fun l ts4 ⟨h5, h6⟩ => ?_
      obtain ⟨a, b, c⟩ := call_bw (kd := 5) (o := 0) (nm := (curT ts).text) (cb := []) (l := l) (.inr (.inl ⟨rfl, bw_name hn⟩)) (sgNone (by decide) (by decide) (.inl (by decide)))
      exact ⟨h5, by rw [a, b]; omega, fun h => absurd h (by rw [c]; simp)⟩
  split
  · rename_i hlp
    refine Po.bind deep_po fun _ ts1 ⟨he, hd⟩ => ?_
    subst he
    refine Po.bind (stepF_w hg.toGd0) fun _ ts1 ⟨h1, h2⟩ => ?_
    rw [hlp, show twt s_lp = 1 from rfl] at h2
    refine Po.bind (ex0_w T h1) fun e ts2 ⟨h3, h4⟩ => ?_
    refine Po.bind (take_w h3.toGd0) fun _ ts3 ⟨_, _, h7, h8⟩ => ?_
    have := Bool.toNat_le (decide ((sgE e).2 < 8))
    exact ⟨h7, by omega, fun _ _ => by omega⟩
  split
  · rename_i hk
    refine Po.bind deep_po fun _ ts1 ⟨he, hd⟩ => ?_
    subst he
    refine Po.bind (stepF_w hg.toGd0) fun _ ts1 ⟨h1, h2⟩ => ?_
    refine Po.bind (take_w h1.toGd0) fun _ ts2 ⟨_, _, h3, h4⟩ => ?_
    rw [show twt s_lp = 1 from rfl] at h4
    refine (form_w T (n0 := tw ts) h3 hk (by omega)).mono fun e ts3 q => ⟨q.1, q.2.1, fun h => absurd h (by rw [q.2.2]; simp)⟩
  · exact trivial
theorem unary_w {d : Nat} {ts : List Tk} (hg : Gd1 ts) : Po (unaryP F d ts) (fun e ts' => Gd1 ts' ∧ bw (txE e) + (decide ((sgE e).2 < 8)).toNat + tw ts' ≤ tw ts ∧ (posB e = true → curK ts ≠ k_number → bw (txE e) + 1 + tw ts' ≤ tw ts)) := by
  unfold unaryP
  split
  · exact T.primary d ts hg
  · rename_i hk
    refine Po.bind deep_po fun _ ts1 ⟨he, hd⟩ => ?_
    subst he
    refine Po.bind (step_w _ hg.toGd0) fun _ ts1 ⟨h1, h2, h3⟩ => ?_
    split
    · rename_i hn
      refine Po.bind (stepF_w h1) fun _ ts2 ⟨h4, h5⟩ => ?_
      have hr := num_of h1
      rw [hn.1, show twt s_minus = 1 from rfl] at h2
      obtain ⟨a, b⟩ := leaf_bw (kd := 0) (n := (curT ts1).n) (nm := []) (.inl rfl)
      refine ⟨h4, ?_, fun hp _ => ?_⟩
      · rw [a, b]; split <;> omega
      · simp only [posB, Bool.and_eq_true, decide_eq_true_eq] at hp
        rw [a, if_neg (by omega)]; omega
    · rename_i hn
      have hg1 : Gd1 ts1 := by
        by_cases hm : curK ts = s_minus
        · exact h3 (.inr fun h => hn ⟨hm, h⟩)
        · exact h3 (.inl (by simpa using hm))
      refine Po.bind (T.unary (d + 1) ts1 hg1) fun e ts2 ⟨h4, h5, h6⟩ => ?_
      have hsgn : ∀ kd : Int, kd = 2 ∨ kd = 3 → sgK kd 0 = ([], 8) := fun kd h => sgNone (by omega) (by omega) (.inl (by omega))
      have hpn : ∀ kd : Int, kd = 2 ∨ kd = 3 → posB (.mk kd 0 0 [] [] [e]) = true → False := fun kd h hp => by
        simp only [posB, Bool.and_eq_true, decide_eq_true_eq] at hp; omega
      have hle : (decide ((sgE e).1 ≠ [])).toNat ≤ (decide ((sgE e).2 < 8)).toNat := by
        by_cases hsg : (sgE e).1 ≠ []
        · rw [decide_eq_true hsg, decide_eq_true (sg_lv hsg)]; exact Nat.le_refl _
        · rw [decide_eq_false hsg]; exact Nat.zero_le _
      by_cases hb : curK ts = s_bang
      · rw [if_pos hb]
        have hs := hsgn 3 (.inr rfl)
        have hs2 : sgE (.mk 3 0 0 [] [] [e]) = ([], 8) := hs
        have ht : txE (.mk 3 0 0 [] [] [e]) = 33 :: par (decide ((sgE e).1 ≠ [])) (txE e) := by
          simp only [txE, txN, hs, txEs]; rfl
        refine ⟨h4, ?_, fun hp => (hpn 3 (.inr rfl) hp).elim⟩
        rw [ht, hs2]
        simp only [bw, bw_par]
        rw [show wb 33 = 0 from rfl, show (decide (8 < 8)).toNat = 0 from rfl]
        omega
      · have hm : curK ts = s_minus := by
          by_cases hm : curK ts = s_minus
          · exact hm
          · exact absurd ⟨hm, hb⟩ hk
        rw [if_neg hb]
        have hs := hsgn 2 (.inl rfl)
        have hs2 : sgE (.mk 2 0 0 [] [] [e]) = ([], 8) := hs
        have ht : txE (.mk 2 0 0 [] [] [e]) = 45 :: par (decide ((sgE e).1 ≠ []) || posB e) (txE e) := by
          simp only [txE, txN, hs, txEs]; rfl
        refine ⟨h4, ?_, fun hp => (hpn 2 (.inl rfl) hp).elim⟩
        rw [ht, hs2]
        simp only [bw, bw_par]
        rw [hm, show twt s_minus = 1 from rfl] at h2
        rw [show wb 45 = 1 from rfl, show (decide (8 < 8)).toNat = 0 from rfl]
        cases hp : posB e with
        | false => rw [Bool.or_false]; omega
        | true =>
          have h7 := h6 hp fun h => hn ⟨hm, h⟩
          rw [Bool.or_true]
          show 1 + (bw (txE e) + 1) + 0 + tw ts2 ≤ tw ts
          omega
end
end Go.Tx
namespace Go.Tx
section
variable {F : PF} (T : PW F)
theorem plain_bw {kd : Int} {nm : Bs} {e : Ex} (h : (kd = 0 ∨ kd = 1) ∧ bw nm = 0 ∨ kd = 6 ∨ kd = 7) (o : Nat) : bw (txS o (.mk kd nm e [] [])) = bw (txE e) := by
  simp only [txS, stT]
  have a0 : bw k_let = 0 := rfl
  have a1 : bw k_do = 0 := rfl
  have a2 : bw k_return = 0 := rfl
  have w32 : wb 32 = 0 := rfl
  have w61 : wb 61 = 0 := rfl
  have w59 : wb 59 = 0 := rfl
  rcases h with ⟨rfl | rfl, h⟩ | rfl | rfl
  · rw [if_pos rfl]; simp only [bw_app, bw, h, a0, w32, w61, w59]; omega
  · rw [if_neg (by decide), if_pos rfl]; simp only [bw_app, bw, h, a0, w32, w61, w59]; omega
  · rw [if_neg (by decide), if_neg (by decide), if_neg (by decide), if_neg (by decide), if_neg (by decide), if_neg (by decide), if_pos rfl]; simp only [bw_app, bw, a1, w32, w61, w59]; omega
  · rw [if_neg (by decide), if_neg (by decide), if_neg (by decide), if_neg (by decide), if_neg (by decide), if_neg (by decide), if_neg (by decide), if_pos rfl]; simp only [bw_app, bw, a2, w32, w61, w59]; omega
theorem bare_bw {kd : Int} (h : kd = 3 ∨ kd = 8 ∨ kd = 9) (o : Nat) : bw (txS o (.mk kd [] .zero [] [])) = 0 := by
  rcases h with rfl | rfl | rfl <;> rfl
theorem spawn_bw {nm f : Bs} {l : List Ex} (hn : bw nm = 0) (hf : bw f = 0) (o : Nat) : bw (txS o (.mk 2 nm (.mk 5 0 0 f [] l) [] [])) = 1 + bws (txEs l) := by
  obtain ⟨a, _, _⟩ := call_bw (kd := 5) (o := 0) (nm := f) (cb := []) (l := l) (.inr (.inl ⟨rfl, hf⟩)) (sgNone (by decide) (by decide) (.inl (by decide)))
  have a0 : bw k_spawn = 0 := rfl
  have w32 : wb 32 = 0 := rfl
  have w61 : wb 61 = 0 := rfl
  have w59 : wb 59 = 0 := rfl
  simp only [txS, stT]
  rw [if_neg (by decide), if_neg (by decide), if_pos trivial]
  simp only [bw_app, bw, hn, a0, w32, w61, w59, a]; omega
theorem while_bw {e : Ex} {b : List St} (o : Nat) : bw (txS o (.mk 5 [] e b [])) = bw (txE e) + bw (txB (o + 1) b) := by
  have a0 : bw k_while = 0 := rfl
  have w32 : wb 32 = 0 := rfl
  have w10 : wb 10 = 0 := rfl
  have w1 : wb 123 = 0 := rfl
  have w2 : wb 125 = 0 := rfl
  simp only [txS, stT]
  rw [if_neg (by decide), if_neg (by decide), if_neg (by decide), if_neg (by decide), if_neg (by decide), if_neg (by decide), if_neg (by decide), if_neg (by decide), if_pos trivial]
  simp only [bw_app, bw, a0, w32, w10, w1, w2, bw_tabs]; omega
theorem if_bw {e : Ex} {b f : List St} (o : Nat) : bw (txS o (.mk 4 [] e b f)) = bw (txE e) + bw (txB (o + 1) b) + bw (elseT o f (txH o f) (txB (o + 1) f)) := by
  have a0 : bw k_if = 0 := rfl
  have w32 : wb 32 = 0 := rfl
  have w10 : wb 10 = 0 := rfl
  have w1 : wb 123 = 0 := rfl
  have w2 : wb 125 = 0 := rfl
  simp only [txS, stT]
  rw [if_neg (by decide), if_neg (by decide), if_neg (by decide), if_neg (by decide), if_neg (by decide), if_neg (by decide), if_neg (by decide), if_neg (by decide), if_neg (by decide), if_pos trivial]
  simp only [bw_app, bw, a0, w32, w10, w1, w2, bw_tabs]; omega
theorem else_bw {f : List St} {o : Nat} {one many : Bs} {n : Nat} (h1 : ∀ s, f = [s] → bw one ≤ n) (h2 : bw many ≤ n) : bw (elseT o f one many) ≤ n := by
  have a0 : bw k_else = 0 := rfl
  have w32 : wb 32 = 0 := rfl
  have w10 : wb 10 = 0 := rfl
  have w1 : wb 123 = 0 := rfl
  have w2 : wb 125 = 0 := rfl
  match f, h1 with
  | [], _ => exact Nat.zero_le _
  | .mk kd nm e b f :: r, h1 =>
    unfold elseT
    dsimp only
    split
    · rename_i h
      have := h1 _ (by rw [h.1])
      simp only [bw_app, bw, a0, w32]; omega
    · simp only [bw_app, bw, a0, w32, w10, w1, w2, bw_tabs]; omega
include T
theorem plain_w {d : Nat} {ts : List Tk} (hg : Gd1 ts) (hb : beginsB (curK ts) = true) (h1 : curK ts ≠ k_if) (h2 : curK ts ≠ k_while) : Po (plainP F d ts) (fun s ts' => Gd1 ts' ∧ ∀ o, bw (txS o s) + tw ts' ≤ tw ts) := by
  unfold plainP
  refine Po.bind (stepF_w hg.toGd0) fun _ ts1 ⟨g1, l1⟩ => ?_
  split
  · exact ⟨g1, fun o => by rw [bare_bw (.inl rfl)]; omega⟩
  split
  · exact ⟨g1, fun o => by rw [bare_bw (.inr (.inl rfl))]; omega⟩
  split
  · exact ⟨g1, fun o => by rw [bare_bw (.inr (.inr rfl))]; omega⟩
  split
  · exact Po.bind (ex0_w T g1) fun e ts2 ⟨g2, l2⟩ => ⟨g2, fun o => by rw [plain_bw (.inr (.inl rfl))]; omega⟩
  split
  · exact Po.bind (ex0_w T g1) fun e ts2 ⟨g2, l2⟩ => ⟨g2, fun o => by rw [plain_bw (.inr (.inr rfl))]; omega⟩
  split
  · refine Po.bind (take_w g1.toGd0) fun n ts2 ⟨e2, k2, g2, l2⟩ => ?_
    refine Po.bind (take_w g2.toGd0) fun _ ts3 ⟨_, _, g3, l3⟩ => ?_
    refine Po.bind (take_w g3.toGd0) fun f ts4 ⟨e4, k4, g4, l4⟩ => ?_
    refine Po.bind (take_w g4.toGd0) fun _ ts5 ⟨_, _, g5, l5⟩ => ?_
    rw [show twt s_lp = 1 from rfl] at l5
    refine Po.bind (args_w T (n0 := tw ts5) (ts5.length + 1) [] ts5 g5 (by rw [show bws (txEs []) = 0 from rfl]; omega)) fun l ts6 ⟨g6, l6⟩ => ?_
    have hn := name_of g1.toGd0 k2
    have hf := name_of g3.toGd0 k4
    exact ⟨g6, fun o => by rw [spawn_bw (by rw [e2]; exact bw_name hn) (by rw [e4]; exact bw_name hf)]; omega⟩
  split
  · refine Po.bind (take_w g1.toGd0) fun n ts2 ⟨e2, k2, g2, l2⟩ => ?_
    refine Po.bind (take_w g2.toGd0) fun _ ts3 ⟨_, _, g3, l3⟩ => ?_
    have hn := name_of g1.toGd0 k2
    exact Po.bind (ex0_w T g3) fun e ts4 ⟨g4, l4⟩ => ⟨g4, fun o => by rw [plain_bw (.inl ⟨.inl rfl, by rw [e2]; exact bw_name hn⟩)]; omega⟩
  · rename_i a1 a2 a3 a4 a5 a6 a7
    have hk : curK ts = k_name := by
      simp only [beginsB, Bool.or_eq_true, beq_iff_eq] at hb
      rcases hb with ((((((((hb | hb) | hb) | hb) | hb) | hb) | hb) | hb) | hb) | hb
      · exact absurd hb a7
      · exact absurd hb a6
      · exact absurd hb a1
      · exact absurd hb h1
      · exact absurd hb h2
      · exact absurd hb a4
      · exact absurd hb a5
      · exact absurd hb a2
      · exact absurd hb a3
      · exact hb
    have hn := name_of hg.toGd0 hk
    refine Po.bind (take_w g1.toGd0) fun _ ts2 ⟨_, _, g2, l2⟩ => ?_
    exact Po.bind (ex0_w T g2) fun e ts4 ⟨g4, l4⟩ => ⟨g4, fun o => by rw [plain_bw (.inl ⟨.inr rfl, bw_name hn⟩)]; omega⟩
theorem stmt_w {d : Nat} {ts : List Tk} (hg : Gd1 ts) : Po (stmtP F d ts) (fun s ts' => Gd1 ts' ∧ ∀ o, bw (txS o s) + tw ts' ≤ tw ts) := by
  unfold stmtP
  split
  · rename_i hb
    refine Po.bind deep_po fun _ ts1 ⟨he, hd⟩ => ?_
    subst he
    split
    · exact T.choice d ts hg
    rename_i hif
    split
    · refine Po.bind (stepF_w hg.toGd0) fun _ ts1 ⟨g1, l1⟩ => ?_
      refine Po.bind (ex0_w T g1) fun e ts2 ⟨g2, l2⟩ => ?_
      refine Po.bind (T.block (d + 1) ts2 g2) fun b ts3 ⟨g3, l3⟩ => ?_
      exact ⟨g3, fun o => by rw [while_bw]; have := l3 (o + 1); omega⟩
    · rename_i hwh
      refine Po.bind (plain_w T hg hb hif hwh) fun s ts1 ⟨g1, l1⟩ => ?_
      refine Po.bind (take_w g1.toGd0) fun _ ts2 ⟨_, _, g2, l2⟩ => ?_
      exact ⟨g2, fun o => by have := l1 o; omega⟩
  · exact trivial
omit T in
theorem txB_snoc (o : Nat) (l : List St) (s : St) : bw (txB o (l ++ [s])) = bw (txB o l) + bw (txS o s) := by
  rw [txB_app]
  simp only [txB, bw_app, bw, bw_tabs]
  rw [show wb 10 = 0 from rfl]; omega
theorem loopB_w {d n0 : Nat} : ∀ (n : Nat) (l : List St) (ts : List Tk), Gd1 ts → (∀ o, bw (txB o l) + tw ts ≤ n0) → Po (loopB F d n l ts) (fun l ts' => Gd1 ts' ∧ ∀ o, bw (txB o l) + tw ts' ≤ n0)
  | 0, _, _, _, _ => trivial
  | n + 1, l, ts, hg, hb => by
    unfold loopB
    split
    · exact ⟨hg, hb⟩
    · refine Po.bind (stmt_w T hg) fun s ts1 ⟨g1, l1⟩ => ?_
      exact loopB_w n _ ts1 g1 fun o => by rw [txB_snoc]; have := hb o; have := l1 o; omega
theorem block_w {d : Nat} {ts : List Tk} (hg : Gd1 ts) : Po (blockP F d ts) (fun b ts' => Gd1 ts' ∧ ∀ o, bw (txB o b) + tw ts' ≤ tw ts) := by
  unfold blockP
  refine Po.bind (take_w hg.toGd0) fun _ ts1 ⟨_, _, g1, l1⟩ => ?_
  refine Po.bind (loopB_w T (n0 := tw ts1) (ts1.length + 1) [] ts1 g1 (fun o => by simp [txB, bw])) fun l ts2 ⟨g2, l2⟩ => ?_
  refine Po.bind (take_w g2.toGd0) fun _ ts3 ⟨_, _, g3, l3⟩ => ?_
  exact ⟨g3, fun o => by have := l2 o; omega⟩
theorem choice_w {d : Nat} {ts : List Tk} (hg : Gd1 ts) : Po (choiceP F d ts) (fun s ts' => Gd1 ts' ∧ ∀ o, bw (txS o s) + tw ts' ≤ tw ts) := by
  unfold choiceP
  refine Po.bind (take_w hg.toGd0) fun _ ts1 ⟨_, _, g1, l1⟩ => ?_
  refine Po.bind (ex0_w T g1) fun e ts2 ⟨g2, l2⟩ => ?_
  refine Po.bind (T.block (d + 1) ts2 g2) fun b ts3 ⟨g3, l3⟩ => ?_
  split
  · exact ⟨g3, fun o => by rw [if_bw]; have := l3 (o + 1); simp only [elseT, bw]; omega⟩
  · refine Po.bind (stepF_w g3.toGd0) fun _ ts4 ⟨g4, l4⟩ => ?_
    split
    · refine Po.bind deep_po fun _ ts5 ⟨he5, hd5⟩ => ?_
      subst he5
      refine Po.bind (T.choice (d + 1) ts4 g4) fun x ts5 ⟨g5, l5⟩ => ?_
      refine ⟨g5, fun o => ?_⟩
      rw [if_bw]
      have h3 := l3 (o + 1)
      have := else_bw (f := [x]) (o := o) (one := txH o [x]) (many := txB (o + 1) [x]) (n := tw ts4 - tw ts5) (fun s hs => by
        simp only [txH]; have := l5 o; omega) (by
        simp only [txB, bw_app, bw, bw_tabs]
        rw [show wb 10 = 0 from rfl]
        have := l5 (o + 1); omega)
      have := l5 o
      omega
    · refine Po.bind (T.block (d + 1) ts4 g4) fun c ts5 ⟨g5, l5⟩ => ?_
      refine ⟨g5, fun o => ?_⟩
      rw [if_bw]
      have h3 := l3 (o + 1)
      have := else_bw (f := c) (o := o) (one := txH o c) (many := txB (o + 1) c) (n := tw ts4 - tw ts5) (fun s hs => by
        subst hs
        simp only [txH]
        have := l5 o
        simp only [txB, bw_app, bw, bw_tabs] at this
        omega) (by have := l5 (o + 1); omega)
      have := l5 o
      omega
theorem PW.next : PW F.next where
  expr lv d ts h := expr_w T h
  unary d ts h := unary_w T h
  primary d ts h := primary_w T h
  block d ts h := block_w T h
  choice d ts h := choice_w T h
end
theorem pf_pw : ∀ n, PW (pf n)
  | 0 => ⟨fun _ _ _ _ => trivial, fun _ _ _ => trivial, fun _ _ _ => trivial, fun _ _ _ => trivial, fun _ _ _ => trivial⟩
  | n + 1 => (pf_pw n).next
theorem names_bw : ∀ {l : List Bs}, l.all isNameB = true → bws l = 0
  | [], _ => rfl
  | x :: r, h => by
    simp only [List.all_cons, Bool.and_eq_true] at h
    simp only [bws, bw_name h.1, names_bw h.2]
theorem loopN_w {n0 : Nat} : ∀ (n : Nat) (l : List Bs) (ts : List Tk), Gd1 ts → l.all isNameB = true → tw ts ≤ n0 → Po (loopN n l ts) (fun l ts' => Gd1 ts' ∧ l.all isNameB = true ∧ tw ts' ≤ n0)
  | 0, _, _, _, _, _ => trivial
  | n + 1, l, ts, hg, ha, hn => by
    unfold loopN
    split
    · exact ⟨hg, ha, hn⟩
    · have hc : Po (if l.length ≠ 0 then (takeP s_comma ts).bind fun _ ts1 => .ok () ts1 else .ok () ts : Res Unit) (fun _ ts' => Gd1 ts' ∧ tw ts' ≤ tw ts) := by
        split
        · exact Po.bind (take_w hg.toGd0) fun _ ts1 q => ⟨q.2.2.1, by have := q.2.2.2; omega⟩
        · exact ⟨hg, Nat.le_refl _⟩
      refine Po.bind hc fun _ ts1 ⟨g1, l1⟩ => ?_
      refine Po.bind (take_w g1.toGd0) fun t ts2 ⟨e2, k2, g2, l2⟩ => ?_
      have := name_of g1.toGd0 k2
      exact loopN_w n _ ts2 g2 (by rw [List.all_append, ha, e2]; simp [this]) (by omega)
theorem fn_bw {nm : Bs} {ps : List Bs} {b : List St} (hn : bw nm = 0) (hp : bws ps = 0) : bw (txF ⟨nm, ps, b⟩) = 1 + bw (txB 1 b) := by
  have a0 : bw k_fn = 0 := rfl
  have w32 : wb 32 = 0 := rfl
  have w40 : wb 40 = 1 := rfl
  have w41 : wb 41 = 0 := rfl
  have w10 : wb 10 = 0 := rfl
  have w1 : wb 123 = 0 := rfl
  have w2 : wb 125 = 0 := rfl
  simp only [txF, bw_app, bw, bw_join, hn, hp, a0, w32, w40, w41, w10, w1, w2]; omega
theorem function_w {F : PF} (T : PW F) {ts : List Tk} (hg : Gd1 ts) : Po (functionP F ts) (fun f ts' => Gd1 ts' ∧ bw (txF f) + tw ts' ≤ tw ts) := by
  unfold functionP
  refine Po.bind (take_w hg.toGd0) fun _ ts1 ⟨_, _, g1, l1⟩ => ?_
  refine Po.bind (take_w g1.toGd0) fun nm ts2 ⟨e2, k2, g2, l2⟩ => ?_
  refine Po.bind (take_w g2.toGd0) fun _ ts3 ⟨_, _, g3, l3⟩ => ?_
  rw [show twt s_lp = 1 from rfl] at l3
  refine Po.bind (loopN_w (n0 := tw ts3) (ts3.length + 1) [] ts3 g3 rfl (Nat.le_refl _)) fun ps ts4 ⟨g4, p1, l4⟩ => ?_
  refine Po.bind (take_w g4.toGd0) fun _ ts5 ⟨_, _, g5, l5⟩ => ?_
  refine Po.bind (T.block 1 ts5 g5) fun b ts6 ⟨g6, l6⟩ => ?_
  have hn := name_of g1.toGd0 k2
  exact ⟨g6, by rw [fn_bw (by rw [e2]; exact bw_name hn) (names_bw p1)]; have := l6 1; omega⟩
theorem whole_snoc (l : List Fnc) (f : Fnc) : bw (whole (l ++ [f])) = bw (whole l) + bw (txF f) := by
  unfold whole
  rw [List.flatMap_append, bw_app]; simp
theorem loopF_w {F : PF} (T : PW F) {n0 : Nat} : ∀ (n : Nat) (l : List Fnc) (ts : List Tk), Gd1 ts → bw (whole l) + tw ts ≤ n0 → Po (loopF F n l ts) (fun l _ => bw (whole l) ≤ n0)
  | 0, _, _, _, _ => trivial
  | n + 1, l, ts, hg, hn => by
    unfold loopF
    split
    · show bw (whole l) ≤ n0
      omega
    · refine Po.bind (function_w T hg) fun f ts1 ⟨g1, l1⟩ => ?_
      exact loopF_w T n _ ts1 g1 (by rw [whole_snoc]; omega)
theorem bw_drop : ∀ (l : Bs) (p q : Nat), p ≤ q → bw (l.drop q) ≤ bw (l.drop p)
  | l, p, q, h => by
    obtain ⟨k, rfl⟩ : ∃ k, q = p + k := ⟨q - p, by omega⟩
    rw [← List.drop_drop]
    generalize l.drop p = m
    have : bw m = bw (m.take k) + bw (m.drop k) := by rw [← bw_app, List.take_append_drop]
    omega
theorem read_w (l : Bs) (p : Nat) (hp : p ≤ l.length) : twt (readT l p).1.kind + bw (l.drop (readT l p).2) ≤ bw (l.drop p) := by
  obtain ⟨hr1, hr2⟩ := skp_range false (l.drop p) p
  rw [List.length_drop] at hr2
  have h0 := bw_drop l p _ hr1
  unfold readT
  split
  · have := bw_drop l p l.length hp
    show twt k_end + bw (l.drop l.length) ≤ _
    rw [show twt k_end = 0 from rfl]; omega
  · rename_i c r hc
    rw [hc] at h0
    split
    · rename_i h
      have h1 := bw_drop l _ (skp false (l.drop p) p + spanN alnum (c :: r)) (Nat.le_trans hr1 (Nat.le_add_right _ _))
      have : twt (named ((c :: r).take (spanN alnum (c :: r))) (skp false (l.drop p) p)).kind = 0 := by
        unfold named
        split
        · rename_i hk
          have key : ∀ k ∈ keywords, twt k = 0 := by decide
          exact key _ (List.contains_iff_mem.1 hk)
        · rfl
      show twt (named ((c :: r).take (spanN alnum (c :: r))) (skp false (l.drop p) p)).kind + bw (l.drop (skp false (l.drop p) p + spanN alnum (c :: r))) ≤ _
      rw [this]; omega
    · split
      · have h1 := bw_drop l p (skp false (l.drop p) p + spanN digit (c :: r)) (Nat.le_trans hr1 (Nat.le_add_right _ _))
        have : ∀ s q, twt (number s q).kind = 0 := fun s q => by unfold number; split <;> rfl
        show twt (number ((c :: r).take (spanN digit (c :: r))) (skp false (l.drop p) p)).kind + bw (l.drop (skp false (l.drop p) p + spanN digit (c :: r))) ≤ _
        rw [this]; omega
      · split
        · rename_i t ht
          have hm : t ∈ signs := List.mem_of_find?_eq_some ht
          have hpre := List.find?_some ht
          have key : ∀ t ∈ signs, twt t ≤ bw t := by decide
          have hk := key t hm
          have htk : (c :: r).take t.length = t := by simpa using hpre
          have hd : l.drop (skp false (l.drop p) p + t.length) = (c :: r).drop t.length := by rw [← List.drop_drop, hc]
          show twt t + bw (l.drop (skp false (l.drop p) p + t.length)) ≤ _
          rw [hd]
          have : bw (c :: r) = bw ((c :: r).take t.length) + bw ((c :: r).drop t.length) := by rw [← bw_app, List.take_append_drop]
          rw [htk] at this
          omega
        · have h1 := bw_drop l p (skp false (l.drop p) p + 1) (Nat.le_trans hr1 (Nat.le_add_right _ _))
          show twt [] + bw (l.drop (skp false (l.drop p) p + 1)) ≤ _
          rw [show twt [] = 0 from rfl]; omega
theorem words_w (l : Bs) : ∀ (n p : Nat), p ≤ l.length → tw (words l n p) ≤ bw (l.drop p)
  | 0, p, _ => by simp [words, tw]
  | n + 1, p, hp => by
    have h := read_w l p hp
    rw [words_succ]
    split
    · simp only [tw]; omega
    · have := words_w l n _ (read_adv l hp).1
      simp only [tw]; omega
theorem bare_law {l : Bs} {fuel : Nat} {fs : List Fnc} {ts : List Tk} (h : parseP l fuel = .ok fs ts) : bw (whole fs) ≤ bw l := by
  have key : Po (parseP l fuel) (fun fs _ => bw (whole fs) ≤ bw l) := by
    unfold parseP
    refine Po.bind (stepF_w (start_g l)) fun _ ts1 ⟨g1, l1⟩ => ?_
    refine Po.bind (function_w (pf_pw fuel) g1) fun f ts2 ⟨g2, l2⟩ => ?_
    have h1 : tw (start l) ≤ bw l := by
      have := words_w l (l.length + 1) 0 (Nat.zero_le _)
      simp only [start, tw]
      rw [show twt [] = 0 from rfl]
      simpa using this
    have l1 : twt [] + tw ts1 = tw (start l) := l1
    exact loopF_w (pf_pw fuel) _ [f] ts2 g2 (by simp only [whole, List.flatMap_cons, List.flatMap_nil, List.append_nil]; omega)
  rw [h] at key
  exact key
end Go.Tx
namespace Go.Tx
def dpt : Nat → Bs → Option Nat
  | d, [] => some d
  | d, c :: r => if c = 40 then dpt (d + 1) r else if c = 41 then (if d = 0 then none else dpt (d - 1) r) else dpt d r
theorem dpt_app : ∀ (a b : Bs) (d : Nat), dpt d (a ++ b) = (dpt d a).bind fun e => dpt e b
  | [], b, d => rfl
  | c :: r, b, d => by
    simp only [List.cons_append, dpt]
    split
    · exact dpt_app r b _
    · split
      · split
        · rfl
        · exact dpt_app r b _
      · exact dpt_app r b _
def Bal (l : Bs) : Prop := ∀ d, dpt d l = some d
theorem Bal.nil : Bal [] := fun d => rfl
theorem Bal.app {a b : Bs} (ha : Bal a) (hb : Bal b) : Bal (a ++ b) := fun d => by rw [dpt_app, ha d]; exact hb d
theorem Bal.cons {c : UInt8} {l : Bs} (h : c ≠ 40 ∧ c ≠ 41) (hl : Bal l) : Bal (c :: l) := fun d => by
  simp only [dpt]
  rw [if_neg h.1, if_neg h.2]
  exact hl d
theorem Bal.free : ∀ {s : Bs}, (∀ c ∈ s, c ≠ 40 ∧ c ≠ 41) → Bal s
  | [], _ => Bal.nil
  | c :: r, h => Bal.cons (h c (by simp)) (Bal.free fun x hx => h x (by simp [hx]))
theorem Bal.par {l r : Bs} (hl : Bal l) (hr : Bal r) : Bal (40 :: (l ++ 41 :: r)) := fun d => by
  simp only [dpt, if_true]
  rw [dpt_app, hl (d + 1)]
  simp only [Option.bind_some, dpt]
  rw [if_neg (by decide), if_pos trivial, if_neg (by omega)]
  exact hr d
theorem fr_alnum {s : Bs} (h : ∀ c ∈ s, alnum c = true) : Bal s := Bal.free fun c hc => by
  have := h c hc
  refine ⟨?_, ?_⟩ <;> rintro rfl <;> exact absurd this (by decide)
theorem bal_wn {s : Bs} (h : Wn s) : Bal s := by
  obtain ⟨_, _, _, _, h4⟩ := wn_shape h
  exact fr_alnum h4
theorem bal_name {s : Bs} (h : isNameB s = true) : Bal s := bal_wn (.inl h)
theorem bal_itoa (n : Int) : Bal (Go.Lib.itoa n) := by
  have hd : ∀ m, Bal (Go.Lib.decDigits m) := fun m => fr_alnum fun c hc => by unfold alnum; rw [dec_dig m c hc, Bool.or_true]
  unfold Go.Lib.itoa
  split
  · exact Bal.cons (by decide) (hd _)
  · exact hd _
theorem bal_tabs (o : Nat) : Bal (tabs o) := Bal.free fun c hc => by rw [List.eq_of_mem_replicate hc]; decide
theorem bal_join : ∀ {l : List Bs}, (∀ t ∈ l, Bal t) → Bal (joinC l)
  | [], _ => Bal.nil
  | [x], h => h x (by simp)
  | x :: y :: r, h => (h x (by simp)).app (Bal.cons (by decide) (Bal.cons (by decide) (bal_join fun t ht => h t (by simp [List.mem_cons.1 ht]))))
theorem bal_par {b : Bool} {t : Bs} (h : Bal t) : Bal (par b t) := by
  unfold par
  split
  · exact Bal.par h Bal.nil
  · exact h
theorem bal_op (o : Int) : Bal (opNm o) := by
  unfold opNm
  split
  · rename_i h
    have key : ∀ k, k < 16 → ((opNames[k]?.getD []).all fun c => c != 40 && c != 41) = true := by decide
    have := key o.toNat (by omega)
    exact Bal.free fun c hc => by simpa using List.all_eq_true.1 this c hc
  · exact Bal.nil
theorem bal_sg (kd o : Int) : Bal (sgK kd o).1 := by
  have h : ∀ (s : Bs) (l : List (List Bs)) (i : Nat), Bal s → Bal (lvAux s l i).1 := by
    intro s l
    induction l with
    | nil => intro i _; exact Bal.nil
    | cons x r ih =>
      intro i hs
      unfold lvAux
      split
      · exact hs
      · exact ih _ hs
  refine h _ _ _ ?_
  unfold sgS
  split
  · exact Bal.free (by decide)
  · split
    · exact Bal.free (by decide)
    · split
      · exact bal_op o
      · exact Bal.nil
theorem bal_get {l : List Bs} (h : ∀ t ∈ l, Bal t) (i : Nat) : Bal (l.getD i []) := by
  rw [List.getD_eq_getElem?_getD]
  cases hx : l[i]? with
  | none => exact Bal.nil
  | some t => exact h t (List.mem_of_getElem? hx)
mutual
theorem balE : ∀ (e : Ex), exB e = true → Bal (txE e)
  | .mk kd o n nm cb ks, h => by
    simp only [exB, Bool.and_eq_true] at h
    have ih := balEs ks h.1
    have hh := h.2
    have kr : Bal k_reduce := bal_wn (.inr (by decide))
    have ke : Bal k_each := bal_wn (.inr (by decide))
    simp only [txE]
    unfold txN
    split
    · exact (bal_par (bal_get ih 0)).app (Bal.cons (by decide) ((bal_sg kd o).app (Bal.cons (by decide) (bal_par (bal_get ih 1)))))
    · split
      · exact bal_itoa n
      · rename_i h0
        split
        · rename_i h1
          subst h1
          simp [hdB] at hh
          exact bal_name hh.2
        · rename_i h1
          split
          · exact Bal.cons (by decide) (bal_par (bal_get ih 0))
          · rename_i h2
            split
            · exact Bal.cons (by decide) (bal_par (bal_get ih 0))
            · rename_i h3
              split
              · exact (bal_op o).app (Bal.par (bal_join ih) Bal.nil)
              · rename_i h4
                split
                · rename_i h5
                  subst h5
                  simp [hdB] at hh
                  exact (bal_name hh.2).app (Bal.par (bal_join ih) Bal.nil)
                · rename_i h5
                  split
                  · rename_i h6
                    subst h6
                    simp [hdB] at hh
                    have hc : Bal (nm ++ 44 :: 32 :: (cb ++ 44 :: 32 :: joinC (txEs ks))) := (bal_name hh.1.2).app (Bal.cons (by decide) (Bal.cons (by decide) ((bal_name hh.2).app (Bal.cons (by decide) (Bal.cons (by decide) (bal_join ih))))))
                    have := kr.app (Bal.par hc Bal.nil)
                    simpa only [List.append_assoc, List.cons_append] using this
                  · rename_i h6
                    have h7 : kd = 7 ∧ isNameB nm = true := by
                      unfold hdB at hh
                      rw [if_neg h0, if_neg h1, if_neg (by omega)] at hh
                      split at hh
                      · rename_i h89
                        exfalso
                        rename_i hsg
                        apply hsg
                        rcases h89 with rfl | rfl
                        · show (sgn2 s_andd).1 ≠ []; decide
                        · show (sgn2 s_orr).1 ≠ []; decide
                      · (try rw [if_neg h4] at hh); (try rw [if_neg h5] at hh); (try rw [if_neg h6] at hh)
                        split at hh
                        · rename_i h7
                          simp only [Bool.and_eq_true] at hh
                          exact ⟨h7, hh.2⟩
                        · cases hh
                    have hc : Bal (nm ++ 44 :: 32 :: joinC (txEs ks)) := (bal_name h7.2).app (Bal.cons (by decide) (Bal.cons (by decide) (bal_join ih)))
                    have := ke.app (Bal.par hc Bal.nil)
                    simpa only [List.append_assoc, List.cons_append] using this
theorem balEs : ∀ (l : List Ex), exBs l = true → ∀ t ∈ txEs l, Bal t
  | [], _, t, ht => by simp [txEs] at ht
  | e :: r, h, t, ht => by
    simp only [exBs, Bool.and_eq_true] at h
    simp only [txEs, List.mem_cons] at ht
    rcases ht with rfl | ht
    · exact balE e h.1
    · exact balEs r h.2 t ht
end
theorem bal_else {f : List St} {o : Nat} {one many : Bs} (h1 : f ≠ [] → Bal one) (h2 : Bal many) : Bal (elseT o f one many) := by
  have ke : Bal k_else := bal_wn (.inr (by decide))
  match f, h1 with
  | [], _ => exact Bal.nil
  | .mk kd nm e b f :: r, h1 =>
    unfold elseT
    dsimp only
    split
    · exact Bal.cons (by decide) (ke.app (Bal.cons (by decide) (h1 (by simp))))
    · exact Bal.cons (by decide) (ke.app (Bal.cons (by decide) (Bal.cons (by decide) (Bal.cons (by decide) (h2.app ((bal_tabs o).app (Bal.free (by decide))))))))
theorem kw_bal {s : Bs} (h : s ∈ keywords) : Bal s := bal_wn (.inr h)
mutual
theorem balS : ∀ (s : St) (o : Nat), stB s = true → Bal (txS o s)
  | .mk kd nm e b f, o, h => by
    have hb := balB b (o + 1)
    have hf := balB f (o + 1)
    have hh := balH f o
    have he := balE e
    simp only [txS]
    unfold stT
    unfold stB at h
    split
    · rename_i h0
      rw [if_pos (.inl h0)] at h
      simp only [Bool.and_eq_true] at h
      exact (kw_bal (by decide)).app (Bal.cons (by decide) ((bal_name h.1.1.1).app (Bal.cons (by decide) (Bal.cons (by decide) (Bal.cons (by decide) ((he h.1.1.2).app (Bal.free (by decide))))))))
    split
    · rename_i h0 h1
      rw [if_pos (.inr h1)] at h
      simp only [Bool.and_eq_true] at h
      exact (bal_name h.1.1.1).app (Bal.cons (by decide) (Bal.cons (by decide) (Bal.cons (by decide) ((he h.1.1.2).app (Bal.free (by decide))))))
    rename_i h0 h1
    rw [if_neg (by omega)] at h
    split
    · rename_i h2
      rw [if_pos h2] at h
      simp only [Bool.and_eq_true] at h
      exact (kw_bal (by decide)).app (Bal.cons (by decide) ((bal_name h.1.1.1.1).app (Bal.cons (by decide) (Bal.cons (by decide) (Bal.cons (by decide) ((he h.1.1.2).app (Bal.free (by decide))))))))
    rename_i h2
    rw [if_neg h2] at h
    split
    · exact (kw_bal (by decide)).app (Bal.free (by decide))
    split
    · exact (kw_bal (by decide)).app (Bal.free (by decide))
    split
    · exact (kw_bal (by decide)).app (Bal.free (by decide))
    rename_i h3 h8 h9
    rw [if_neg (by omega)] at h
    split
    · rename_i h6
      rw [if_pos (.inl h6)] at h
      simp only [Bool.and_eq_true] at h
      exact (kw_bal (by decide)).app (Bal.cons (by decide) ((he h.1.1.2).app (Bal.free (by decide))))
    split
    · rename_i h6 h7
      rw [if_pos (.inr h7)] at h
      simp only [Bool.and_eq_true] at h
      exact (kw_bal (by decide)).app (Bal.cons (by decide) ((he h.1.1.2).app (Bal.free (by decide))))
    rename_i h6 h7
    rw [if_neg (by omega)] at h
    split
    · rename_i h5
      rw [if_pos h5] at h
      simp only [Bool.and_eq_true] at h
      exact (kw_bal (by decide)).app (Bal.cons (by decide) ((he h.1.1.2).app (Bal.cons (by decide) (Bal.cons (by decide) (Bal.cons (by decide) ((hb h.1.2).app ((bal_tabs o).app (Bal.free (by decide)))))))))
    rename_i h5
    rw [if_neg h5] at h
    split
    · rename_i h4
      rw [if_pos h4] at h
      simp only [Bool.and_eq_true] at h
      exact (kw_bal (by decide)).app (Bal.cons (by decide) ((he h.1.1.2).app (Bal.cons (by decide) (Bal.cons (by decide) (Bal.cons (by decide) ((hb h.1.2).app ((bal_tabs o).app (Bal.cons (by decide) (bal_else (fun _ => hh h.2) (hf h.2))))))))))
    · exact Bal.nil
theorem balB : ∀ (l : List St) (o : Nat), stBs l = true → Bal (txB o l)
  | [], _, _ => Bal.nil
  | s :: r, o, h => by
    simp only [stBs, Bool.and_eq_true] at h
    simp only [txB]
    exact (bal_tabs o).app ((balS s o h.1).app (Bal.cons (by decide) (balB r o h.2)))
theorem balH : ∀ (l : List St) (o : Nat), stBs l = true → Bal (txH o l)
  | [], _, _ => Bal.nil
  | s :: r, o, h => by
    simp only [stBs, Bool.and_eq_true] at h
    simp only [txH]
    exact balS s o h.1
end
theorem balF {f : Fnc} (h : fnB f = true) : Bal (txF f) := by
  simp only [fnB, Bool.and_eq_true] at h
  unfold txF
  exact (kw_bal (by decide)).app (Bal.cons (by decide) ((bal_name h.1.1).app (Bal.par (bal_join fun t ht => bal_name (List.all_eq_true.1 h.1.2 t ht)) (Bal.cons (by decide) (Bal.cons (by decide) (Bal.cons (by decide) ((balB _ 1 h.2).app (Bal.free (by decide)))))))))
theorem bal_whole : ∀ {fs : List Fnc}, fs.all fnB = true → Bal (whole fs)
  | [], _ => Bal.nil
  | f :: r, h => by
    simp only [List.all_cons, Bool.and_eq_true] at h
    simp only [whole, List.flatMap_cons]
    exact (balF h.1).app (bal_whole h.2)
def mt : Nat → Bs → Option Nat
  | _, [] => none
  | j, c :: r => if c = 40 then (mt (j + 1) r).map (· + 1) else if c = 41 then (if j = 1 then some 0 else (mt (j - 1) r).map (· + 1)) else (mt j r).map (· + 1)
theorem mt_some : ∀ {b : Bs} {j d e : Nat}, 1 ≤ j → dpt (d + j) b = some e → e ≤ d → (mt j b).isSome = true
  | [], j, d, e, hj, h, he => by
    simp only [dpt, Option.some.injEq] at h; omega
  | c :: r, j, d, e, hj, h, he => by
    simp only [dpt] at h
    simp only [mt]
    split
    · rename_i hc
      rw [if_pos hc] at h
      rw [Option.isSome_map]
      exact mt_some (by omega) (by rw [← Nat.add_assoc]; exact h) he
    · rename_i hc
      rw [if_neg hc] at h
      split
      · rename_i hd
        rw [if_pos hd, if_neg (by omega)] at h
        split
        · rfl
        · rw [Option.isSome_map]
          exact mt_some (by omega) (by rw [← Nat.add_sub_assoc hj]; exact h) he
      · rename_i hd
        rw [if_neg hd] at h
        rw [Option.isSome_map]
        exact mt_some hj h he
theorem mt_of {a b : Bs} (h : Bal (a ++ 40 :: b)) : (mt 1 b).isSome = true := by
  have h0 := h 0
  rw [dpt_app] at h0
  cases hd : dpt 0 a with
  | none => rw [hd] at h0; cases h0
  | some d =>
    rw [hd] at h0
    simp only [Option.bind_some, dpt, if_true] at h0
    exact mt_some (Nat.le_refl 1) h0 (Nat.zero_le _)
def opN : Bs → Nat
  | [] => 0
  | c :: r => (if c = 40 then 1 else 0) + opN r
theorem opN_app : ∀ a b : Bs, opN (a ++ b) = opN a + opN b
  | [], b => by simp [opN]
  | c :: r, b => by simp only [List.cons_append, opN, opN_app r b]; omega
theorem op_whole {fs : List Fnc} (h : treeB fs = true) : 0 < opN (whole fs) := by
  simp only [treeB, Bool.and_eq_true, decide_eq_true_eq] at h
  match fs, h.1 with
  | f :: r, _ =>
    simp only [whole, List.flatMap_cons, txF, opN_app, opN, if_true]
    omega
end Go.Tx
namespace Go.Sh
theorem run_rem2 {P : Program} {t : Nat} {a b : Int} {xo yo : Operand} (hb : b ≠ 0) (w : World) : (do eqGuard .rem t xo yo (.int .i64 a) (.int .i64 b); binOp .rem t (.int .i64 a) (.int .i64 b) : Sem Value).run P w = .ok (.int .i64 (a.tmod b)) w := by
  have hg : (eqGuard .rem t xo yo (.int .i64 a) (.int .i64 b)).run P w = .ok () w := by unfold eqGuard; simp
  simp [hg, binOp, Op.intDiv, hb]
section
variable {P : Program} {T : Tab} {t : TypeId} {ti : TI} {l : List UInt8}
theorem run_take2 (hT : TabOk P T) (ht : getT T.ts t = some ti) (hd : ti.desc = .string) {kh : IntKind} {j : Nat} (hj : j ≤ l.length) (w : World) : (Instr.sliceAt t (.string (bs l)) none (some (.int kh (j : Int))) none).run P w = .ok (.string (bs (l.take j))) w := by
  have hs := bs_size l
  have hbd : (Instr.sliceBounds false (bs l).size (bs l).size none (some (.int kh (j : Int))) none).run P w = .ok (0, j, (bs l).size) w := by
    simp [Instr.sliceBounds, run_bound (show j ≤ (bs l).size by omega)]
  have := bs_cut l 0 j
  simp [Instr.sliceAt, Instr.slice, run_und hT.1 ht, hd, hbd, this]
theorem run_drop2 (hT : TabOk P T) (ht : getT T.ts t = some ti) (hd : ti.desc = .string) {kh : IntKind} {j : Nat} (hj : j ≤ l.length) (w : World) : (Instr.sliceAt t (.string (bs l)) (some (.int kh (j : Int))) none none).run P w = .ok (.string (bs (l.drop j))) w := by
  have hs := bs_size l
  have hbd : (Instr.sliceBounds false (bs l).size (bs l).size (some (.int kh (j : Int))) none none).run P w = .ok (j, (bs l).size, (bs l).size) w := by
    simp [Instr.sliceBounds, run_bound (show j ≤ (bs l).size by omega)]
  have := bs_cut l j l.length
  rw [List.take_of_length_le (by rw [List.length_drop]; omega)] at this
  rw [← hs] at this
  simp [Instr.sliceAt, Instr.slice, run_und hT.1 ht, hd, hbd, this]
end
end Go.Sh
namespace Go.Tx
def dropBr (P : Bs) (o i : Nat) : Bs := P.take o ++ [32] ++ (P.drop (o + 1)).take (i - (o + 1)) ++ [32] ++ P.drop (i + 1)
theorem drop_law {P : Bs} {o i : Nat} (ho : P[o]? = some 40) (hi : P[i]? = some 41) (hlt : o < i) : bw (dropBr P o i) + 1 = bw P ∧ (dropBr P o i).length = P.length := by
  obtain ⟨h1, h2⟩ := List.getElem?_eq_some_iff.1 ho
  obtain ⟨h3, h4⟩ := List.getElem?_eq_some_iff.1 hi
  have e1 : P = P.take o ++ 40 :: P.drop (o + 1) := by rw [← h2, ← List.drop_eq_getElem_cons h1, List.take_append_drop]
  have e2 : P.drop (o + 1) = (P.drop (o + 1)).take (i - (o + 1)) ++ 41 :: P.drop (i + 1) := by
    have h5 : (P.drop (o + 1)).drop (i - (o + 1)) = 41 :: P.drop (i + 1) := by
      rw [List.drop_drop, show o + 1 + (i - (o + 1)) = i by omega, List.drop_eq_getElem_cons h3, h4]
    rw [← h5, List.take_append_drop]
  have b1 : bw P = bw (P.take o) + (1 + bw (P.drop (o + 1))) := by
    conv => lhs; rw [e1]
    rw [bw_app]; rfl
  have b2 : bw (P.drop (o + 1)) = bw ((P.drop (o + 1)).take (i - (o + 1))) + (0 + bw (P.drop (i + 1))) := by
    conv => lhs; rw [e2]
    rw [bw_app]; rfl
  have l2 : (P.drop (o + 1)).length = ((P.drop (o + 1)).take (i - (o + 1))).length + (1 + (P.drop (i + 1)).length) := by
    conv => lhs; rw [e2]
    rw [List.length_append, List.length_cons]; omega
  have b3 : bw [32] = 0 := rfl
  unfold dropBr
  refine ⟨?_, ?_⟩
  · simp only [bw_app, b3]; omega
  · simp only [List.length_append, List.length_cons, List.length_nil, List.length_take]
    rw [List.length_drop] at l2
    simp only [List.length_take, List.length_drop] at l2 ⊢
    omega
def modN (x : Int) (n : Nat) : Nat := (if x.tmod n < 0 then x.tmod n + n else x.tmod n).toNat
theorem modN_lt (x : Int) {n : Nat} (h : 0 < n) : modN x n < n := by
  have h1 := Int.tmod_lt_of_pos x (show (0 : Int) < n by omega)
  have h2 := Int.lt_tmod_of_pos x (show (0 : Int) < n by omega)
  unfold modN
  split <;> omega
theorem opN_take {P : Bs} {i : Nat} {c : UInt8} (h : P[i]? = some c) : opN (P.take (i + 1)) = opN (P.take i) + (if c = 40 then 1 else 0) := by
  obtain ⟨h1, h2⟩ := List.getElem?_eq_some_iff.1 h
  rw [List.take_succ_eq_append_getElem h1, h2, opN_app]; rfl
theorem opN_le : ∀ l : Bs, opN l ≤ l.length
  | [] => Nat.le_refl _
  | c :: r => by have := opN_le r; simp only [opN, List.length_cons]; split <;> omega
end Go.Tx
namespace Go.Proofs.YtfnjodpehomgfaaGreatDoor
open Go Go.Sh Go.Tx
attribute [local irreducible] Blk Ext RdS
theorem i_eq2 {a b : Int} (h : a = b) : Value.int .i64 a = .int .i64 b := by rw [h]
theorem mod_c (x : Int) (n : Nat) (w : World) (h0 : 0 < n) (h1 : n ≤ 1000000) : Cl Tryz.prog 26 #[.int .i64 x, .int .i64 (n : Int)] w (fun v w' => v = .int .i64 (modN x n : Int) ∧ Ext w w') (fun _ _ => False) := by
  have g1 := Int.tmod_lt_of_pos x (show (0 : Int) < n by omega)
  have g2 := Int.lt_tmod_of_pos x (show (0 : Int) < n by omega)
  refine calls_ex (args := [.int .i64 x, .int .i64 (n : Int)]) T.ok Tryz.func26 rfl rfl rfl rfl ?_
  have H := Hp.begin nw w
  repeat' ((conv => whnf); first | refine ztS ?_ | (refine ztB ?_ ?_ <;> intro _ <;> try (exfalso; omega)) | (refine ztA ?_; clear H; intro _ _ H _) | fail)
  refine Sm.ran (run_rem2 (by omega) _) ?_
  repeat' ((conv => whnf); first | refine ztS ?_ | (refine ztB ?_ ?_ <;> intro _ <;> try (exfalso; omega)) | (refine ztA ?_; clear H; intro _ _ H _) | fail)
  · refine ⟨i_eq2 ?_, H.e⟩
    unfold modN
    rw [if_pos (by assumption)]
    exact w64 (by omega) (by omega) (by omega)
  · refine ⟨i_eq2 ?_, H.e⟩
    unfold modN
    rw [if_neg (by assumption)]
    omega
def BrI (P : Bs) (k0 i : Nat) (k o : Int) (d : Nat) : Prop :=
  (o = -1 ∧ d = 0 ∧ ∃ k' : Nat, k = (k' : Int) ∧ k' + opN (P.take i) = k0) ∨
  (∃ o' : Nat, o = (o' : Int) ∧ o' < i ∧ P[o']? = some 40 ∧ 1 ≤ d ∧ d ≤ i ∧ (Go.Tx.mt d (P.drop i)).isSome = true)
theorem mt_at {P : Bs} {i d : Nat} {c : UInt8} (h : P[i]? = some c) : Go.Tx.mt d (P.drop i) = if c = 40 then (Go.Tx.mt (d + 1) (P.drop (i + 1))).map (· + 1) else if c = 41 then (if d = 1 then some 0 else (Go.Tx.mt (d - 1) (P.drop (i + 1))).map (· + 1)) else (Go.Tx.mt d (P.drop (i + 1))).map (· + 1) := by
  obtain ⟨h1, h2⟩ := List.getElem?_eq_some_iff.1 h
  rw [List.drop_eq_getElem_cons h1, h2]; rfl
set_option maxHeartbeats 8000000 in
theorem without_c (P : Bs) (k0 : Nat) (w : World) (hB : Bal P) (hk : k0 < opN P) (hl : P.length ≤ 1000000) :
    Cl Tryz.prog 25 #[.string (bs P), .int .i64 (k0 : Int)] w (fun v w' => ∃ q, v = .tuple #[.string (bs q), .bool true] ∧ bw q + 1 = bw P ∧ q.length = P.length ∧ Ext w w') (fun _ _ => False) := by
  refine calls_ex (args := [.string (bs P), .int .i64 (k0 : Int)]) T.ok Tryz.func25 rfl rfl rfl rfl ?_
  have H := Hp.begin nw w
  have hPs := bs_size P
  have hop := opN_le P
  repeat' ((conv => whnf); first | refine ztT ?_ | (refine ztB ?_ ?_ <;> intro _ <;> try (exfalso; omega)) | (refine ztW ?_; clear H; intro _ _ H _) | fail)
  refine Lp.g0 T.ok (σ := Nat × Int × Int × Nat) (fun s => [(8, .int .i64 (s.1 : Int)), (1, .int .i64 s.2.1), (6, .int .i64 s.2.2.1), (7, .int .i64 (s.2.2.2 : Int)), (0, .string (bs P)), (5, .bool false)])
    (fun s w' => s.1 ≤ P.length ∧ BrI P k0 s.1 s.2.1 s.2.2.1 s.2.2.2 ∧ Hp nw w w' []) (fun s _ => P.length - s.1) (0, k0, -1, 0) rfl ⟨rfl, rfl, rfl, rfl, rfl, rfl, trivial⟩ ⟨Nat.zero_le _, .inl ⟨rfl, rfl, k0, rfl, rfl⟩, H⟩ ?_
  clear H
  rintro ⟨i, k, o, d⟩ w5 ⟨hi, hI, H⟩
  dsimp only at hi hI H ⊢
  by_cases hlt : i < P.length
  rotate_left
  · exfalso
    have hie : i = P.length := by omega
    subst hie
    rcases hI with ⟨_, _, k', _, h⟩ | ⟨_, _, _, _, _, _, h⟩
    · rw [List.take_of_length_le (Nat.le_refl _)] at h; omega
    · rw [List.drop_of_length_le (Nat.le_refl _)] at h; simp [Go.Tx.mt] at h
  obtain ⟨x, hx⟩ : ∃ x, P[i]? = some x := ⟨_, List.getElem?_eq_getElem hlt⟩
  have hot := opN_take hx
  have hmt := fun d => mt_at (d := d) hx
  have hwi : IntKind.i64.wrap ((i : Int) + 1) = ((i + 1 : Nat) : Int) := w64 rfl (by omega) (by omega)
  have fin : ∀ (k1 o1 : Int) (d1 : Nat) (w' : World), BrI P k0 (i + 1) k1 o1 d1 → Hp nw w w' [] → (i + 1 ≤ P.length ∧ BrI P k0 (i + 1) k1 o1 d1 ∧ Hp nw w w' []) := fun k1 o1 d1 w' h1 h2 => ⟨hlt, h1, h2⟩
  by_cases h40 : x = 40
  · subst h40
    rw [if_pos rfl] at hot
    simp only [if_true] at hmt
    rcases hI with ⟨rfl, rfl, k', rfl, hkk⟩ | ⟨o', rfl, ho1, ho2, hd1, hd2, hd3⟩
    · by_cases hk0 : k' = 0
      · subst hk0
        have hm1 : (Go.Tx.mt 1 (P.drop (i + 1))).isSome = true := by
          refine mt_of (a := P.take i) ?_
          obtain ⟨h1, h2⟩ := List.getElem?_eq_some_iff.1 hx
          rw [← h2, ← List.drop_eq_getElem_cons h1, List.take_append_drop]; exact hB
        repeat' ((conv => whnf); first | refine ztT ?_ | (refine ztB ?_ ?_ <;> intro _ <;> try (exfalso; omega)) | (refine ztW ?_; clear H; intro _ _ H _) | fail)
        all_goals first | (exfalso; omega) | skip
        exact ⟨(i + 1, _, (i : Int), 1), ⟨at_int (m := ((i + 1 : Nat) : Int)) rfl (w64 (by simp) (by omega) (by omega)), rfl, rfl, rfl, rfl, rfl, trivial⟩, rfl, fin _ _ 1 _ (.inr ⟨i, rfl, Nat.lt_succ_self i, hx, Nat.le_refl 1, by omega, hm1⟩) H, (show P.length - (i + 1) < P.length - i by omega)⟩
      · have hwk : IntKind.i64.wrap ((k' : Int) - 1) = ((k' - 1 : Nat) : Int) := w64 (by omega) (by omega) (by omega)
        repeat' ((conv => whnf); first | refine ztT ?_ | (refine ztB ?_ ?_ <;> intro _ <;> try (exfalso; omega)) | (refine ztW ?_; clear H; intro _ _ H _) | fail)
        all_goals first | (exfalso; omega) | skip
        exact ⟨(i + 1, ((k' - 1 : Nat) : Int), -1, 0), ⟨at_int (m := ((i + 1 : Nat) : Int)) rfl (w64 (by simp) (by omega) (by omega)), at_int rfl hwk, rfl, rfl, rfl, rfl, trivial⟩, rfl, fin _ _ _ _ (.inl ⟨rfl, rfl, k' - 1, rfl, by omega⟩) H, (show P.length - (i + 1) < P.length - i by omega)⟩
    · have hwd : IntKind.i64.wrap ((d : Int) + 1) = ((d + 1 : Nat) : Int) := w64 rfl (by omega) (by omega)
      rw [hmt, Option.isSome_map] at hd3
      repeat' ((conv => whnf); first | refine ztT ?_ | (refine ztB ?_ ?_ <;> intro _ <;> try (exfalso; omega)) | (refine ztW ?_; clear H; intro _ _ H _) | fail)
      all_goals first | (exfalso; omega) | skip
      exact ⟨(i + 1, _, (o' : Int), d + 1), ⟨at_int (m := ((i + 1 : Nat) : Int)) rfl (w64 (by simp) (by omega) (by omega)), rfl, rfl, at_int rfl hwd, rfl, rfl, trivial⟩, rfl, fin _ _ (d + 1) _ (.inr ⟨o', rfl, by omega, ho2, by omega, by omega, hd3⟩) H, (show P.length - (i + 1) < P.length - i by omega)⟩
  · have hx40 : ¬ ((x.toNat : Nat) : Int) = 40 := fun h => h40 (UInt8.toNat_inj.1 (by show x.toNat = 40; omega))
    rw [if_neg h40] at hot
    simp only [h40, if_false] at hmt
    by_cases h41 : x = 41
    · subst h41
      simp only [if_true] at hmt
      rcases hI with ⟨rfl, rfl, k', rfl, hkk⟩ | ⟨o', rfl, ho1, ho2, hd1, hd2, hd3⟩
      · repeat' ((conv => whnf); first | refine ztT ?_ | (refine ztB ?_ ?_ <;> intro _ <;> try (exfalso; omega)) | (refine ztW ?_; clear H; intro _ _ H _) | fail)
        all_goals first | (exfalso; omega) | skip
        exact ⟨(i + 1, _, -1, 0), ⟨at_int (m := ((i + 1 : Nat) : Int)) rfl (w64 (by simp) (by omega) (by omega)), rfl, rfl, rfl, rfl, rfl, trivial⟩, rfl, fin _ _ _ _ (.inl ⟨rfl, rfl, k', rfl, by omega⟩) H, (show P.length - (i + 1) < P.length - i by omega)⟩
      · have hwd : IntKind.i64.wrap ((d : Int) - 1) = ((d - 1 : Nat) : Int) := w64 (by omega) (by omega) (by omega)
        by_cases hd : d = 1
        · subst hd
          obtain ⟨q1, q2⟩ := drop_law ho2 hx ho1
          have hwo : IntKind.i64.wrap ((o' : Int) + 1) = ((o' + 1 : Nat) : Int) := w64 rfl (by omega) (by omega)
          repeat' ((conv => whnf); first | refine ztT ?_ | (refine ztB ?_ ?_ <;> intro _ <;> try (exfalso; omega)) | (refine ztW ?_; clear H; intro _ _ H _) | fail)
          all_goals first | (exfalso; omega) | skip
          ((conv => whnf); refine Dr.quiet T.ok mixed (by kernel_rfl) (fun W hW => ?_))
          repeat' ((conv => whnf); first | refine ztQ ?_ | (refine ztB ?_ ?_ <;> intro _ <;> try (exfalso; omega)) | fail)
          refine QSm.mk hW (fun w' _ => run_take2 (l := P) (j := o') T.ok rfl rfl (by omega) w') ?_
          repeat' ((conv => whnf); first | refine ztQ ?_ | (refine ztB ?_ ?_ <;> intro _ <;> try (exfalso; omega)) | fail)
          refine QSm.mk hW (fun w' _ => run_cat (l := P.take o') (m := [32]) (by rw [List.length_take, List.length_cons, List.length_nil]; omega) w') ?_
          repeat' ((conv => whnf); first | refine ztQ ?_ | (refine ztB ?_ ?_ <;> intro _ <;> try (exfalso; omega)) | fail)
          refine QSm.mk hW (v := .string (bs ((P.drop (o' + 1)).take (i - (o' + 1))))) (fun w' _ => by rw [hwo]; exact run_strcut (l := P) (i := o' + 1) (j := i) T.ok rfl rfl (by omega) (by omega) w') ?_
          repeat' ((conv => whnf); first | refine ztQ ?_ | (refine ztB ?_ ?_ <;> intro _ <;> try (exfalso; omega)) | fail)
          refine QSm.mk hW (fun w' _ => run_cat (l := P.take o' ++ [32]) (m := (P.drop (o' + 1)).take (i - (o' + 1))) (by simp only [List.length_append, List.length_take, List.length_drop, List.length_cons, List.length_nil]; omega) w') ?_
          repeat' ((conv => whnf); first | refine ztQ ?_ | (refine ztB ?_ ?_ <;> intro _ <;> try (exfalso; omega)) | fail)
          refine QSm.mk hW (fun w' _ => run_cat (l := P.take o' ++ [32] ++ (P.drop (o' + 1)).take (i - (o' + 1))) (m := [32]) (by simp only [List.length_append, List.length_take, List.length_drop, List.length_cons, List.length_nil]; omega) w') ?_
          repeat' ((conv => whnf); first | refine ztQ ?_ | (refine ztB ?_ ?_ <;> intro _ <;> try (exfalso; omega)) | fail)
          refine QSm.mk hW (v := .string (bs (P.drop (i + 1)))) (fun w' _ => by rw [hwi]; exact run_drop2 (l := P) (j := i + 1) T.ok rfl rfl (by omega) w') ?_
          repeat' ((conv => whnf); first | refine ztQ ?_ | (refine ztB ?_ ?_ <;> intro _ <;> try (exfalso; omega)) | fail)
          refine QSm.mk hW (fun w' _ => run_cat (l := P.take o' ++ [32] ++ (P.drop (o' + 1)).take (i - (o' + 1)) ++ [32]) (m := P.drop (i + 1)) (by simp only [List.length_append, List.length_take, List.length_drop, List.length_cons, List.length_nil]; omega) w') ?_
          repeat' ((conv => whnf); first | refine ztQ ?_ | (refine ztB ?_ ?_ <;> intro _ <;> try (exfalso; omega)) | fail)
          (intro _ eT; replace H := H.ext eT; clear hW eT)
          repeat' ((conv => whnf); first | refine ztT ?_ | (refine ztB ?_ ?_ <;> intro _ <;> try (exfalso; omega)) | (refine ztW ?_; clear H; intro _ _ H _) | fail)
          exact ⟨dropBr P o' i, rfl, q1, q2, H.e⟩
        · have hdd : ¬ ((d - 1 : Nat) : Int) = 0 := by omega
          rw [hmt, if_neg hd, Option.isSome_map] at hd3
          repeat' ((conv => whnf); first | refine ztT ?_ | (refine ztB ?_ ?_ <;> intro _ <;> try (exfalso; omega)) | (refine ztW ?_; clear H; intro _ _ H _) | fail)
          all_goals first | (exfalso; omega) | skip
          exact ⟨(i + 1, _, (o' : Int), d - 1), ⟨at_int (m := ((i + 1 : Nat) : Int)) rfl (w64 (by simp) (by omega) (by omega)), rfl, rfl, at_int rfl hwd, rfl, rfl, trivial⟩, rfl, fin _ _ (d - 1) _ (.inr ⟨o', rfl, by omega, ho2, by omega, by omega, hd3⟩) H, (show P.length - (i + 1) < P.length - i by omega)⟩
    · have hx41 : ¬ ((x.toNat : Nat) : Int) = 41 := fun h => h41 (UInt8.toNat_inj.1 (by show x.toNat = 41; omega))
      simp only [h41, if_false] at hmt
      have hI2 : BrI P k0 (i + 1) k o d := by
        rcases hI with ⟨h1, h2, k', h3, h4⟩ | ⟨o', h1, h2, h3, h4, h5, h6⟩
        · exact .inl ⟨h1, h2, k', h3, by omega⟩
        · rw [hmt, Option.isSome_map] at h6
          exact .inr ⟨o', h1, by omega, h3, h4, by omega, h6⟩
      repeat' ((conv => whnf); first | refine ztT ?_ | (refine ztB ?_ ?_ <;> intro _ <;> try (exfalso; omega)) | (refine ztW ?_; clear H; intro _ _ H _) | fail)
      all_goals first | (exfalso; omega) | skip
      exact ⟨(i + 1, k, o, d), ⟨at_int (m := ((i + 1 : Nat) : Int)) rfl (w64 (by simp) (by omega) (by omega)), rfl, rfl, rfl, rfl, rfl, trivial⟩, rfl, fin _ _ _ _ hI2 H, (show P.length - (i + 1) < P.length - i by omega)⟩
end Go.Proofs.YtfnjodpehomgfaaGreatDoor
namespace Go.Proofs.YtfnjodpehomgfaaGreatDoor
open Go Go.Sh Go.Tx
attribute [local irreducible] Blk Ext RdS
mutual
theorem sameE_eq : ∀ {a b : Ex}, sameE a b = true → a = b
  | .mk k o n x y l, .mk k2 o2 n2 x2 y2 l2, h => by
    simp only [sameE, Bool.and_eq_true, beq_iff_eq] at h
    obtain ⟨⟨⟨⟨⟨rfl, rfl⟩, rfl⟩, rfl⟩, rfl⟩, h⟩ := h
    rw [sameL_eq h]
theorem sameL_eq : ∀ {a b : List Ex}, sameL a b = true → a = b
  | [], [], _ => rfl
  | x :: r, y :: s, h => by
    simp only [sameL, Bool.and_eq_true] at h
    rw [sameE_eq h.1, sameL_eq h.2]
  | [], _ :: _, h => by simp [sameL] at h
  | _ :: _, [], h => by simp [sameL] at h
end
mutual
theorem sameT_eq : ∀ {a b : Go.Tx.St}, sameT a b = true → a = b
  | .mk k x e b f, .mk k2 x2 e2 b2 f2, h => by
    simp only [sameT, Bool.and_eq_true, beq_iff_eq] at h
    obtain ⟨⟨⟨⟨rfl, rfl⟩, he⟩, hb⟩, hf⟩ := h
    rw [sameE_eq he, sameU_eq hb, sameU_eq hf]
theorem sameU_eq : ∀ {a b : List Go.Tx.St}, sameU a b = true → a = b
  | [], [], _ => rfl
  | x :: r, y :: s, h => by
    simp only [sameU, Bool.and_eq_true] at h
    rw [sameT_eq h.1, sameU_eq h.2]
  | [], _ :: _, h => by simp [sameU] at h
  | _ :: _, [], h => by simp [sameU] at h
end
theorem sameP_eq : ∀ {a b : List Fnc}, sameP a b = true → a = b
  | [], [], _ => rfl
  | ⟨n, p, b⟩ :: r, ⟨n2, p2, b2⟩ :: s, h => by
    simp only [sameP, sameF, Bool.and_eq_true, beq_iff_eq] at h
    obtain ⟨⟨⟨rfl, rfl⟩, hb⟩, hr⟩ := h
    rw [sameU_eq hb, sameP_eq hr]
  | [], _ :: _, h => by simp [sameP] at h
  | _ :: _, [], h => by simp [sameP] at h
set_option maxHeartbeats 8000000 in
theorem textBare_c (m : List FM) (A : Option Addr) (c : Nat) (k : Int) (w : World) (hG : Rp w) (hR : Rdy w A m) (hN : nP (m.map FM.e) ≤ 1048576) (hr : ∀ f ∈ m, rgSs (SM.es f.body)) :
    Cl Tryz.prog 9 #[.agg #[.slice A m.length c], .int .i64 k] w (fun u w' => u = .bool true ∧ Ext w w') (fun _ _ => False) := by
  refine calls_ex (args := [.agg #[.slice A m.length c], .int .i64 k]) T.ok Tryz.func9 rfl rfl rfl rfl ?_
  have H := Hp.begin nw w
  refine Sq.mk ?_
  ((conv => whnf); refine Al.hp H ?_; clear H; intro p1 _ H _)
  repeat' ((conv => whnf); first | refine ztT ?_ | (refine ztB ?_ ?_ <;> intro _ <;> try (exfalso; omega)) | (refine ztW ?_; clear H; intro _ _ H _) | fail)
  ((conv => whnf); refine Cl.mk (beyond_c m A c _ (RdS.from H.e hR.rd) (fun f hf => (hR.all f hf).ext H.e) hR.len (by omega)) ?_)
  rintro _ w1 ⟨b, rfl, ex⟩
  replace H := H.ext ex
  clear ex
  cases b with
  | true =>
    repeat' ((conv => whnf); first | refine ztT ?_ | (refine ztB ?_ ?_ <;> intro _ <;> try (exfalso; omega)) | (refine ztW ?_; clear H; intro _ _ H _) | fail)
    exact ⟨rfl, H.e⟩
  | false =>
  repeat' ((conv => whnf); first | refine ztT ?_ | (refine ztB ?_ ?_ <;> intro _ <;> try (exfalso; omega)) | (refine ztW ?_; clear H; intro _ _ H _) | fail)
  ((conv => whnf); refine Cl.mk (copied_c m A c _ (RdS.from H.e hR.rd) (fun f hf => (hR.all f hf).ext H.e) hR.len) ?_)
  rintro _ w2 ⟨A2, c2, m2, S2, rfl, hm2, H'⟩
  replace H := H.fr0L H' (fun c hc => by simp only [List.mem_cons, List.not_mem_nil, or_false] at hc; rcases hc with rfl | rfl <;> exact .inl rfl)
  have hml := hR.len
  have hl2 := len_map hm2
  have hrdy := rdy_copy H' (by omega) (by rw [hm2]; omega) (rg_map hm2 hr)
  clear H'
  ((conv => whnf); refine Cl.mk (Print_c m2 A2 c2 _ (hG.ext H.e) hrdy.rd hrdy.all hrdy.len hrdy.fit) ?_)
  rw [hm2]
  by_cases h0 : (printP (m.map FM.e)).2 = 0
  rotate_left
  · generalize (printP (m.map FM.e)).2 = E at h0
    generalize (printP (m.map FM.e)).1 = q
    rintro _ w3 ⟨rfl, ex⟩
    replace H := H.ext ex
    clear ex
    repeat' (first | ((conv => whnf); first | refine ztT ?_ | (refine ztB ?_ ?_ <;> intro _ <;> try (exfalso; omega)) | (refine ztW ?_; clear H; intro _ _ H _) | fail) | (((conv => whnf); refine Cl.mk (head_c _ (hG.ext H.e)) ?_); rintro _ _ ⟨rfl, hx⟩; replace H := H.ext hx; clear hx))
    all_goals first | exact ⟨rfl, H.e⟩ | (exfalso; omega) | skip
  obtain ⟨hpr, htb, ts, hok⟩ := round_law h0 (fun f hf => by
    obtain ⟨g, hg, rfl⟩ := List.mem_map.1 hf
    exact hr g hg)
  have hwl : (whole (m.map FM.e)).length ≤ 16384 := by
    rcases Nat.lt_or_ge 16384 (whole (m.map FM.e)).length with h | h
    · unfold PR at hok; rw [if_pos h] at hok; cases hok
    · exact h
  have hop := op_whole htb
  have hbal : Bal (whole (m.map FM.e)) := by
    simp only [treeB, Bool.and_eq_true] at htb
    exact bal_whole htb.2
  rw [hpr]
  rintro _ w3 ⟨rfl, ex⟩
  replace H := H.ext ex
  clear ex
  repeat' ((conv => whnf); first | refine ztT ?_ | (refine ztB ?_ ?_ <;> intro _ <;> try (exfalso; omega)) | (refine ztW ?_; clear H; intro _ _ H _) | fail)
  all_goals first | (exfalso; omega) | skip
  generalize hP : whole (m.map FM.e) = P at *
  have hPs := bs_size P
  have hopl := opN_le P
  refine Lp.g0 T.ok (σ := Nat) (fun i => [(8, .int .i64 (i : Int)), (7, .int .i64 (opN (P.take i) : Int)), (5, .string (bs P)), (2, .pointer (some ⟨p1, 0, none⟩)), (1, .int .i64 k), (4, .bool false)])
    (fun i w' => i ≤ P.length ∧ Hp nw w w' [bk p1 24 [.slice A m.length c]])
    (fun i _ => P.length - i) 0 rfl ⟨rfl, rfl, rfl, rfl, rfl, rfl, trivial⟩ ⟨Nat.zero_le _, H.sel [2] rfl⟩ ?_
  clear H hrdy
  rintro i w5 ⟨hi, H⟩
  dsimp only at hi H ⊢
  by_cases hlt : i < P.length
  · obtain ⟨x, hx⟩ : ∃ x, P[i]? = some x := ⟨_, List.getElem?_eq_getElem hlt⟩
    have hot := opN_take hx
    have hol := opN_le (P.take i)
    rw [List.length_take] at hol
    by_cases h40 : x = 40
    · subst h40
      rw [if_pos rfl] at hot
      have hwo : IntKind.i64.wrap ((opN (P.take i) : Int) + 1) = ((opN (P.take (i + 1)) : Nat) : Int) := w64 (by omega) (by omega) (by omega)
      repeat' ((conv => whnf); first | refine ztT ?_ | (refine ztB ?_ ?_ <;> intro _ <;> try (exfalso; omega)) | (refine ztW ?_; clear H; intro _ _ H _) | fail)
      all_goals first | (exfalso; omega) | skip
      exact ⟨i + 1, ⟨at_int (m := ((i + 1 : Nat) : Int)) rfl (w64 (by simp) (by omega) (by omega)), at_int rfl hwo, rfl, rfl, rfl, rfl, trivial⟩, rfl, ⟨hlt, H⟩, (show P.length - (i + 1) < P.length - i by omega)⟩
    · have hx40 : ¬ ((x.toNat : Nat) : Int) = 40 := fun h => h40 (UInt8.toNat_inj.1 (by show x.toNat = 40; omega))
      rw [if_neg h40] at hot
      repeat' ((conv => whnf); first | refine ztT ?_ | (refine ztB ?_ ?_ <;> intro _ <;> try (exfalso; omega)) | (refine ztW ?_; clear H; intro _ _ H _) | fail)
      all_goals first | (exfalso; omega) | skip
      exact ⟨i + 1, ⟨at_int (m := ((i + 1 : Nat) : Int)) rfl (w64 (by simp) (by omega) (by omega)), at_int rfl (by rw [hot]; rfl), rfl, rfl, rfl, rfl, trivial⟩, rfl, ⟨hlt, H⟩, (show P.length - (i + 1) < P.length - i by omega)⟩
  · obtain rfl : i = P.length := by omega
    rw [List.take_of_length_le (Nat.le_refl _)]
    repeat' ((conv => whnf); first | refine ztT ?_ | (refine ztB ?_ ?_ <;> intro _ <;> try (exfalso; omega)) | (refine ztW ?_; clear H; intro _ _ H _) | fail)
    all_goals first | (exfalso; omega) | skip
    (((conv => whnf); refine Cl.mk (mod_c k (opN P) _ hop (by omega)) ?_); rintro _ _ ⟨rfl, hx⟩; replace H := H.ext hx; clear hx)
    repeat' ((conv => whnf); first | refine ztT ?_ | (refine ztB ?_ ?_ <;> intro _ <;> try (exfalso; omega)) | (refine ztW ?_; clear H; intro _ _ H _) | fail)
    ((conv => whnf); refine Cl.mk (without_c P (modN k (opN P)) _ hbal (modN_lt k hop) (by omega)) ?_)
    rintro _ w6 ⟨q, rfl, hq1, hq2, ex⟩
    replace H := H.ext ex
    clear ex
    repeat' ((conv => whnf); first | refine ztT ?_ | (refine ztB ?_ ?_ <;> intro _ <;> try (exfalso; omega)) | (refine ztW ?_; clear H; intro _ _ H _) | fail)
    ((conv => whnf); refine Cl.mk (Parse_c q _ (hG.rg.ext H.e)) ?_)
    rintro _ w4 (⟨m3, ts3, A3, c3, hp3, rfl, hlm3, H'⟩ | ⟨e, q', hp3, rfl, ex⟩)
    rotate_left
    · have hne := pr_ne hp3
      replace H := H.ext ex
      clear ex
      repeat' ((conv => whnf); first | refine ztT ?_ | (refine ztB ?_ ?_ <;> intro _ <;> try (exfalso; omega)) | (refine ztW ?_; clear H; intro _ _ H _) | fail)
      ((conv => whnf); refine Al.hp H ?_; clear H; intro p3 _ H _)
      ((conv => whnf); refine Al.hp H ?_; clear H; intro p4 _ H _)
      repeat' ((conv => whnf); first | refine ztT ?_ | (refine ztB ?_ ?_ <;> intro _ <;> try (exfalso; omega)) | (refine ztW ?_; clear H; intro _ _ H _) | fail)
      all_goals first | exact ⟨rfl, H.e⟩ | (exfalso; omega) | skip
    replace H := H.fr0L H' (fun c hc => by simp only [List.mem_cons, List.not_mem_nil, or_false] at hc; rcases hc with rfl | rfl <;> exact .inl rfl)
    clear H'
    have hns : sameP (m.map FM.e) (m3.map FM.e) = false := by
      cases hs : sameP (m.map FM.e) (m3.map FM.e) with
      | false => rfl
      | true =>
        exfalso
        have he := sameP_eq hs
        have hpp : parseP q (fuelOf q) = .ok (m3.map FM.e) ts3 := by
          unfold PR at hp3
          split at hp3
          · cases hp3
          · exact hp3
        have := bare_law hpp
        rw [← he, hP] at this
        omega
    repeat' ((conv => whnf); first | refine ztT ?_ | (refine ztB ?_ ?_ <;> intro _ <;> try (exfalso; omega)) | (refine ztW ?_; clear H; intro _ _ H _) | fail)
    ((conv => whnf); refine Al.hp H ?_; clear H; intro p3 _ H _)
    ((conv => whnf); refine Al.hp H ?_; clear H; intro p4 _ H _)
    repeat' ((conv => whnf); first | refine ztT ?_ | (refine ztB ?_ ?_ <;> intro _ <;> try (exfalso; omega)) | (refine ztW ?_; clear H; intro _ _ H _) | fail)
    (((conv => whnf); refine Cl.mk (same_l m m3 A A3 c c3 _ (RdS.from H.e hR.rd) (fun f hf => ((hR.all f hf).ext H.e).lo) (H.rdq 2 rfl) (FM.oks_lo (H.atC (c := fns m3) 3 rfl).1) hR.len) ?_); rintro _ _ ⟨rfl, hx⟩; replace H := H.ext hx; clear hx)
    rw [hns]
    repeat' ((conv => whnf); first | refine ztT ?_ | (refine ztB ?_ ?_ <;> intro _ <;> try (exfalso; omega)) | (refine ztW ?_; clear H; intro _ _ H _) | fail)
    all_goals first | exact ⟨rfl, H.e⟩ | (exfalso; omega) | skip
end Go.Proofs.YtfnjodpehomgfaaGreatDoor
