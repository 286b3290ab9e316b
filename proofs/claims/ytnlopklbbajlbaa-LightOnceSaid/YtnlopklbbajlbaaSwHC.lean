/- LightOnce: ████ A CALL OF See, FROM FRAME TO FRAME ████ (printed by tools/genhc.py). -/
import Derived.Test.YtnlopklbbajlbaaSwP
import Derived.DuoClaim
import Derived.Conc.CrowdMono
set_option linter.unusedVariables false
set_option linter.unusedSimpArgs false
set_option maxRecDepth 100000
namespace Go.Proofs.Ytnlopklbbajlbaa.Sw
open Go Go.Conc Go.ConcN
open Go.ConcM (OsLater)
open Go.ConcN (sumTo)

/-- THE MACHINE's FRAME: goroutine 0 at a, the others leaving. -/
structure MSt (Shun : Loc → Prop) (a : Goroutine) (w : World) (m : Machine) (t : Trace) : Prop where
  ex : ∃ (gs : Array Goroutine) (sl : Option (Nat × Nat)) (qq : Nat → Nat), m = crowd gs w sl ∧ gs[0]? = some a ∧ Leavers Try.prog t gs qq ∧ Past Shun w.heap.size t
/-- It runs on to there. -/
def RunsTo (Stop : (Loc → Prop) → Goroutine → World → Prop) (m : Machine) (t : Trace) : Prop :=
  ∃ N m' t' Shun a w, runNT Try.prog N m t = (.next m', t') ∧ MSt Shun a w m' t' ∧ Stop Shun a w
theorem RunsTo.walk {Stop : (Loc → Prop) → Goroutine → World → Prop} {Shun : Loc → Prop} {a : Goroutine} {w : World} {m : Machine} {t : Trace} {n : Nat} (h : MSt Shun a w m t) (hg : Goes Try.prog true AtRel (DL Shun) (Stop Shun) n a w) : RunsTo Stop m t := by
  obtain ⟨gs, sl, qq, rfl, h0, hL, hP⟩ := h
  obtain ⟨N, gs', a', w', sl', t', q', e1, _, e3, e4, e5, e6⟩ := walk_on _ n gs a w sl t qq (Nat.le_refl _) h0 hL hP hg
  exact ⟨N, _, t', Shun, a', w', e1, ⟨gs', sl', q', rfl, e3, e5, e6⟩, e4⟩
theorem RunsTo.bind {Stop Stop' : (Loc → Prop) → Goroutine → World → Prop} {m : Machine} {t : Trace} (h : RunsTo Stop m t) (k : ∀ Shun a w m t, MSt Shun a w m t → Stop Shun a w → RunsTo Stop' m t) : RunsTo Stop' m t := by
  obtain ⟨N, m', t', Shun, a, w, e1, e2, e3⟩ := h
  obtain ⟨N', m'', t'', Shun', a', w', f1, f2, f3⟩ := k _ _ _ _ _ e2 e3
  exact ⟨N + N', m'', t'', Shun', a', w', by rw [Go.runNT_add, e1]; exact f1, f2, f3⟩

section
variable {Shun : Loc → Prop} {Stop : (Loc → Prop) → Goroutine → World → Prop} {W0 : World} {A : Nat} {S : List ByteArray} {M : Option Nat} {H0 : Nat} {wk : Int} {nm : Nat → ByteArray} {nmp : Option Addr} {N nc nb no : Nat} {cs : List Frame}
variable {m : Machine} {t : Trace}
theorem AlAt.keep {w w' : World} {B : Nat} (h : AlAt w A S M) (hk : ∀ b, b < B → w'.heap[b]? = w.heap[b]?) (hB : w.heap.size = B) : AlAt w' A S M := by
  obtain ⟨h1, h2, h3, h4⟩ := h
  refine ⟨?_, h2, h3, fun mp hm => ?_⟩
  · rw [hk A (by have := (Array.getElem?_eq_some_iff.1 h1).1; omega)]; exact h1
  · obtain ⟨es, ck, e1, e2⟩ := h4 mp hm
    exact ⟨es, ck, by rw [hk mp (by have := (Array.getElem?_eq_some_iff.1 e1).1; omega)]; exact e1, e2⟩
set_option maxHeartbeats 16000000 in
/-- ████ A CALL OF See. ████ -/
theorem seeCall {b₁ : Frame} {a₁ : Act} {ops₁ : Array Oper} {i₁ : Nat} {rest₁ : List Nat} {k₁ : List Item} {cs' : List Frame}
    (hm : MSt Shun (G ((Go.Conc.base 5).at ⟨#[.pointer (some ⟨A, 0, none⟩), .slice nmp N nc, .int .i64 wk, undef, undef, undef, undef, undef, undef, undef, undef, undef, undef, undef, undef, undef, undef, undef, undef, undef, undef, undef, undef, undef, undef, undef, undef, undef, undef, undef, undef, undef, undef, undef, undef, undef, undef, undef, undef, undef, undef, undef, undef, undef, undef, undef, undef, undef, undef, undef, undef, undef, undef, undef, undef, undef, undef, undef, undef, undef, undef, undef, undef, undef, undef, undef, undef, undef, undef, undef, undef, undef, undef, undef, undef, undef, undef], []⟩ [.code body5]) cs) W0 m t)
    (hA : AlAt W0 A S M) (hSh : ShunOk H0 Shun W0) (hSl : S.length < 1099511627776) (hN : N < 1073741824) (hnmp : 0 < N → nmp = some ⟨nb, no, none⟩) (hnm : ∀ k, k < N → W0.cell? ⟨nb, no + k, none⟩ = some (.string (nm k)))
    (hnb : 0 < N → nb ≠ A ∧ M ≠ some nb ∧ ∀ ad : Addr, ad.block = nb → ¬ Shun (.cell ad)) (hH : H0 ≤ W0.heap.size) (hcs : cs = b₁.at a₁ (.inRegion ops₁ (i₁ :: rest₁) :: k₁) :: cs')
    (hnext : ∀ (Wg : Nat) (w : World) (vo : Value) (S' : List ByteArray) (M' : Option Nat), W0.heap.size ≤ Wg → SeeW A M W0 w → AlAt w A S' M' → (∀ mp, M' = some mp → M = some mp ∨ W0.heap.size ≤ mp) → (∀ x, x ∈ S' ↔ x ∈ S ∨ x ∈ conF nm N) → ShunOk H0 (fun l => Shun l ∨ BxL Wg l) w →
      w.ownsRow W0.heap.size 9 1 vo (newF S (conF nm N)).length ((newF S (conF nm N)).map Value.string) →
      ∃ n, Goes Try.prog true AtRel (DL fun l => Shun l ∨ BxL Wg l) (Stop fun l => Shun l ∨ BxL Wg l) n (G (b₁.at (a₁.put ((ops₁[i₁]?).bind (·.dst)) vo) (.inRegion ops₁ rest₁ :: k₁)) cs') w) :
    RunsTo Stop m t := by
  have hAlt : A < W0.heap.size := (Array.getElem?_eq_some_iff.1 hA.1).1
  have hMlt : ∀ mp, M = some mp → mp < W0.heap.size := fun mp e => by
    obtain ⟨es, ck, e1, _⟩ := hA.2.2.2 mp e
    exact (Array.getElem?_eq_some_iff.1 e1).1
  have hMA : M ≠ some A := fun e => by
    obtain ⟨es, ck, e1, _⟩ := hA.2.2.2 A e
    rw [hA.1] at e1; cases e1
  obtain ⟨n1, hn1⟩ := seeA (Shun := Shun) (W0 := W0) (A := A) (wk := wk) (nm := nm) (nc := nc) (cs := cs) (B := W0.heap.size) rfl (Nat.le_of_lt hN) hnmp hnm (fun h => (hnb h).2.2) (fun ad h => hSh.far h) (fun r _ => hSh.obj r)
  refine RunsTo.bind (Stop := fun Sh g w => Shun = Sh ∧ SeeMid W0 A W0.heap.size (.slice nmp N nc) (wkW wk) (conF nm N) (ixF nm N) cs g w) (RunsTo.walk hm (Go.ConcN.goes_mono (fun g w h => ⟨rfl, h⟩) hn1)) ?_
  rintro _ a w m t ⟨gs, sl, qq, rfl, h0, hL, hP⟩ ⟨rfl, F, v, t1, t2, t6, t8, t9, t10, t11, t12, t15, t16, t17, t18, t19, t20, t21, t22, t23, t24, t25, t26, t27, t28, t29, t30, t31, t32, t33, t34, t35, t36, t37, t38, t39, t40, t41, t42, t43, t44, t45, t46, t47, t48, t51, t52, t53, t54, t55, t56, t57, t58, t59, t60, t61, t62, t63, t64, t65, t66, t67, t68, t69, t70, t71, t72, t73, t74, t75, t76, rfl, hI, hBF, hsz, hob, f0, f1, f2⟩
  obtain ⟨p, cp, hv⟩ : ∃ p c, v = .slice p (ixF nm N).length c := by
    rcases hI.row.2 with ⟨e, h0⟩ | ⟨g, cap, cur, e, _⟩
    · exact ⟨none, 0, by rw [e, h0]⟩
    · exact ⟨_, _, e⟩
  subst hv
  obtain ⟨g, hp⟩ : ∃ g, 0 < (ixF nm N).length → p = some ⟨g, 0, none⟩ ∧ W0.heap.size + 5 ≤ g ∧ g < F := by
    rcases hI.row.2 with ⟨e, h0⟩ | ⟨g, cap, cur, e, h1, _⟩
    · exact ⟨0, fun h => by omega⟩
    · cases e
      exact ⟨g, fun _ => ⟨rfl, h1, hob g rfl⟩⟩
  have hixc : ∀ k, k < (ixF nm N).length → w.cell? ⟨g, 0 + k, none⟩ = some (.int .i64 (ixK nm N k : Int)) := fun k hk => by
    obtain ⟨rfl, hg1, hg2⟩ := hp (by omega)
    rw [Nat.zero_add]
    have := hI.row.cellAt k (by omega)
    rw [this]
    unfold ixK
    rw [List.getD_eq_getElem?_getD, List.getElem?_map, List.getElem?_eq_getElem hk]
    rfl
  have hlen := ixF_len nm N
  have hgr := hI.gr
  have hWr := wkW_rng wk
  have hgs : 0 < gs.size := (Array.getElem?_eq_some_iff.1 h0).1
  have hAl : AlAt w A S M := hA.keep (fun b hb => hgr.block b hb (by simp)) rfl
  -- the frame of the phase
  generalize hc : ({ e := gs.size - 1, p0 := t.size, A := A, Wg := F + 2, F := F, Low := w.heap.size, n := (ixF nm N).length, W := (wkW wk).toNat, Shun := Shun, M0 := M, aF := by omega, aW := by omega, fW := by omega, la := by omega, lf := by omega, lw := by omega, lm := fun mp e => by have := hMlt mp e; omega } : TC) = c
  have c1 : c.e = gs.size - 1 := by rw [← hc]
  have c2 : c.p0 = t.size := by rw [← hc]
  have c3 : c.A = A := by rw [← hc]
  have c4 : c.Wg = F + 2 := by rw [← hc]
  have c5 : c.F = F := by rw [← hc]
  have c6 : c.Low = w.heap.size := by rw [← hc]
  have c7 : c.n = (ixF nm N).length := by rw [← hc]
  have c8 : c.W = (wkW wk).toNat := by rw [← hc]
  have c9 : c.Shun = Shun := by rw [← hc]
  have c10 : c.M0 = M := by rw [← hc]
  clear hc
  generalize hq : (⟨(wkW wk).toNat, (ixF nm N).length, 48, nmK nm N, S⟩ : AP) = q
  have q1 : q.W = c.W := by rw [← hq, c8]
  have q2 : q.n = c.n := by rw [← hq, c7]
  have q3 : q.B = 48 := by rw [← hq]
  have q4 : q.nm = nmK nm N := by rw [← hq]
  have q5 : q.S0 = S := by rw [← hq]
  clear hq
  generalize hV : (⟨W0.heap.size + 3, W0.heap.size + 2, W0.heap.size, W0.heap.size + 1, F + 1, p, cp, g, 0, nmp, N, nc, nb, no, ixK nm N⟩ : Vw) = V
  have v1 : V.bAt = W0.heap.size + 3 := by rw [← hV]
  have v2 : V.bK = W0.heap.size + 2 := by rw [← hV]
  have v3 : V.bA = W0.heap.size := by rw [← hV]
  have v4 : V.bN = W0.heap.size + 1 := by rw [← hV]
  have v5 : V.bF = F + 1 := by rw [← hV]
  have ro : ∀ b, b < F + 2 → b ≠ A → b ≠ F → M ≠ some b → (∀ x : Addr, x.block = b → ¬ Shun (.cell x)) → RoS c b := fun b h1 h2 h3 h4 h5 =>
    ⟨by omega, by omega, by omega, by omega, by rw [c10]; exact h4, fun x hx => by rw [c9]; exact h5 x hx⟩
  have roN : ∀ b, b < F + 2 → W0.heap.size ≤ b → b ≠ F → RoS c b := fun b h1 h2 h3 => ro b h1 (by omega) h3 (fun e => by have := hMlt b e; omega) (fun x hx => hSh.far (by omega))
  have hVok : Vok c q V := by
    rw [← hV]
    exact ⟨roN (W0.heap.size + 3) (by omega) (by omega) (by omega), roN (W0.heap.size + 2) (by omega) (by omega) (by omega), roN W0.heap.size (by omega) (by omega) (by omega), roN (W0.heap.size + 1) (by omega) (by omega) (by omega), roN (F + 1) (by omega) (by omega) (by omega),
      fun h => by obtain ⟨h1, h2, h3⟩ := hp (by omega); exact ⟨h1, roN g (by omega) (by omega) (by omega)⟩,
      fun h => by
        have hN0 : 0 < N := by omega
        obtain ⟨h1, h2, h3⟩ := hnb hN0
        have h4 : nb < W0.heap.size := World.block_lt_of_cell? _ _ (hnm 0 hN0)
        exact ⟨hnmp hN0, ro nb (by omega) h1 (by omega) h2 h3⟩,
      fun k hk => ixK_lt (by omega), by omega, q2, q1, by omega, by omega⟩
  have hsh : ShAt 46 55 4 c w (sh0 S M) := shAt0 (by rw [c3]; exact hAl) c10 c6 (by rw [c4]; exact f2) (by rw [c5, c7]; exact f0)
  have hWn : Wn c q V w := by
    rw [← hV]
    refine ⟨by rw [c7]; exact cell_h hI.t rfl, ?_, by rw [c3]; exact cell_h hI.a rfl, cell_h hI.n rfl, by rw [c5, c7]; exact cell_h f1 rfl, fun k hk => hixc k (by omega), fun k hk => ?_, _, hsh⟩
    · rw [c8, Int.toNat_of_nonneg (by omega)]; exact cell_h hI.k rfl
    · rw [q4]; exact hgr.cell (hnm (ixK nm N k) (ixK_lt (by omega))) (by simp)
  generalize hAn : (fun (s : Sh) (g' : Goroutine) (w : World) => Wn c q V w ∧ ShAt 46 55 4 c w s ∧ ∃ j15 j50 j51 j52 j53 j54 j55 : Value, Back (G ((Go.Conc.base 5).at ⟨#[.pointer (some ⟨A, 0, none⟩), t1, t2, .pointer (some ⟨W0.heap.size, 0, none⟩), .pointer (some ⟨W0.heap.size + 1, 0, none⟩), .pointer (some ⟨W0.heap.size + 2, 0, none⟩), t6, .pointer (some ⟨W0.heap.size + 3, 0, none⟩), t8, t9, t10, t11, t12, .pointer (some ⟨F + 1, 0, none⟩), .pointer (some ⟨F + 2, 0, none⟩), j15, t16, t17, t18, t19, t20, t21, t22, t23, t24, t25, t26, t27, t28, t29, t30, t31, t32, t33, t34, t35, t36, t37, t38, t39, t40, t41, t42, t43, t44, t45, t46, t47, t48, .int .i64 (((wkW wk).toNat : Nat) : Int), j50, j51, j52, j53, j54, j55, .tuple #[], t57, t58, t59, t60, t61, t62, t63, t64, t65, t66, t67, t68, t69, t70, t71, t72, t73, t74, t75, t76], []⟩ [.inRegion ops20 [], .code REST21]) cs) g') = Anch
  have hgo : ∀ k, ∃ m, GoesS Try.prog 46 55 4 c q Anch st00 k m (G ((Go.Conc.base 5).at ⟨#[.pointer (some ⟨A, 0, none⟩), t1, t2, .pointer (some ⟨W0.heap.size, 0, none⟩), .pointer (some ⟨W0.heap.size + 1, 0, none⟩), .pointer (some ⟨W0.heap.size + 2, 0, none⟩), t6, .pointer (some ⟨W0.heap.size + 3, 0, none⟩), t8, t9, t10, t11, t12, .pointer (some ⟨F + 1, 0, none⟩), .pointer (some ⟨F + 2, 0, none⟩), t15, t16, t17, t18, t19, t20, t21, t22, t23, t24, t25, t26, t27, t28, t29, t30, t31, t32, t33, t34, t35, t36, t37, t38, t39, t40, t41, t42, t43, t44, t45, t46, t47, t48, .int .i64 (wkW wk), .int .i64 0, t51, t52, t53, t54, t55, t56, t57, t58, t59, t60, t61, t62, t63, t64, t65, t66, t67, t68, t69, t70, t71, t72, t73, t74, t75, t76], []⟩ [.code LL5, .inLoop LL5, .inBlock 2, .code REST20]) cs) w := fun k => by
    have hh := seeLoop (Anch := Anch) (cs := cs) hVok (by rw [q3]; decide) (by rw [q5, q1, c8, q2, c7]; omega) t1 t2 t6 t8 t9 t10 t11 t12 t16 t17 t18 t19 t20 t21 t22 t23 t24 t25 t26 t27 t28 t29 t30 t31 t32 t33 t34 t35 t36 t37 t38 t39 t40 t41 t42 t43 t44 t45 t46 t47 t48 t57 t58 t59 t60 t61 t62 t63 t64 t65 t66 t67 t68 t69 t70 t71 t72 t73 t74 t75 t76 (fun w s g' h1 h2 h3 => by
      rw [← hAn]
      rw [v1, v2, v3, v4, v5, c3, c4, c8] at h3
      exact ⟨h1, h2, h3⟩) (k + 1) 0 (Nat.zero_le _) 0 0 t15 t51 t52 t53 t54 t55 t56
    rw [if_pos (by omega : 0 < c.W), v1, v2, v3, v4, v5, c3, c4, c8, Int.toNat_of_nonneg (by omega)] at hh
    obtain ⟨n, hn⟩ := hh.2 k (Nat.lt_succ_self _)
    exact ⟨n, hn w hWn⟩
  obtain ⟨N1, m', t', hrun, gs', a', w', sl', s, th, qq', rfl, e2, e3, e4, e5, e6, e7, e8, e9, e10, e11, e12⟩ := phase (P := Try.prog) (tA := 46) (tW := 55) (tB := 4) (c := c) (q := q) (Anch := Anch) (w := w) (gs := gs) (s := sh0 S M) (sl := sl) (t := t) (qq := qq) (by omega) (by omega) q1 q2 (fun a b ha hb h => nmK_inj (nm := nm) (N := N) (by omega) (by omega) (by rw [← q4]; exact h)) (by rw [q5]; exact sh00 c10 hA.2.1) hsh h0 (by omega) hL (by rw [c9]; exact hP) c2 (by rw [c9]; refine hSh.cell fun cs fz e => ?_; simp only [seA, c3] at e; rw [hA.1] at e; cases e) (fun m => by rw [c9]; exact hSh.obj m) (fun k => by rw [c9]; refine hSh.far ?_; show W0.heap.size ≤ c.F; omega) hgo
  refine RunsTo.bind (Stop := fun Sh g w => MSt Sh g w (crowd gs' w' sl') t' ∧ a' = g ∧ w' = w ∧ (fun l => Shun l ∨ BxL (F + 2) l) = Sh) ⟨N1, _, _, _, a', w', hrun, ⟨gs', sl', qq', rfl, e3, e5, by rw [c9, c4] at e6; exact e6⟩, ⟨gs', sl', qq', rfl, e3, e5, by rw [c9, c4] at e6; exact e6⟩, rfl, rfl, rfl⟩ ?_
  rintro _ _ _ _ _ hm2 ⟨_, rfl, rfl, rfl⟩
  subst hAn
  obtain ⟨g1, g2, j15, j50, j51, j52, j53, j54, j55, g3⟩ := e4
  subst hV
  have hs2 : ∀ ad : Addr, W0.heap.size ≤ ad.block → ad.block ≠ F + 2 → ¬ (Shun (.cell ad) ∨ BxL (F + 2) (.cell ad)) := fun ad h1 h2 => by
    rintro (h | ⟨a, e, hb⟩)
    · exact hSh.far h1 h
    · cases e; exact h2 hb
  have hlo := e12.size
  have k1 := g1.at'
  have k2 := g1.f
  rw [c7] at k1
  rw [c5, c7] at k2
  obtain ⟨fc, k3, k4, k5⟩ := g2.f
  rw [c5] at k3
  obtain ⟨n2, hn2⟩ := seeB (Shun := fun l => Shun l ∨ BxL (F + 2) l) (Stop := fun g w => ∃ vo, g = G (b₁.at (a₁.put ((ops₁[i₁]?).bind (·.dst)) vo) (.inRegion ops₁ rest₁ :: k₁)) cs' ∧ w'.grownBy w none ∧ w.ownsRow w'.heap.size 9 1 vo (outF s.fr (nmK nm N) (ixF nm N).length).length ((outF s.fr (nmK nm N) (ixF nm N).length).map Value.string))
    (W2 := w') (bN := W0.heap.size + 1) (bA := W0.heap.size + 3) (bF := F + 1) (F := F) (ab := g) (ao := 0) (nb := nb) (no := no) (n := (ixF nm N).length) (nl := N) (nc := nc) (ac := cp) (np := nmp) (ap := p) (ix := ixK nm N) (nm := nmK nm N) (fr := s.fr) (cs := cs)
    g1.n k1 k2 (fun h => (hp h).1) (fun h => hnmp (by omega)) (fun k hk => ⟨ixK_lt hk, g1.ix k (by omega), by have := g1.nm k (by omega); rw [q4] at this; exact this⟩)
    (fun k hk => cell_h k3 (k5 k (by omega))) (by omega) (hs2 _ (Nat.le_add_right _ _) (by show W0.heap.size + 1 ≠ F + 2; omega)) (hs2 _ (Nat.le_add_right _ _) (by show W0.heap.size + 3 ≠ F + 2; omega)) (hs2 _ (by show W0.heap.size ≤ F + 1; omega) (by show F + 1 ≠ F + 2; omega)) (fun k => hs2 _ (by show W0.heap.size ≤ F; omega) (by show F ≠ F + 2; omega))
    (fun h k => ⟨by obtain ⟨_, h2, h3⟩ := hp h; exact hs2 _ (by show W0.heap.size ≤ g; omega) (by show g ≠ F + 2; omega), by
      rintro (h | ⟨a, e, hb⟩)
      · exact (hnb (by omega)).2.2 _ rfl h
      · cases e
        have h4 : nb < W0.heap.size := World.block_lt_of_cell? _ _ (hnm 0 (by omega))
        have hb : nb = F + 2 := hb
        omega⟩) (fun ad h => hs2 ad (by omega) (by omega)) hcs
    ⟨0, fun w vo hg ho => Goes.stop fun w₁ hr => by
      obtain ⟨d, rfl⟩ := hr
      exact ⟨vo, rfl, grown_at hg d, ho⟩⟩ (.pointer (some ⟨A, 0, none⟩)) t1 t2 (.pointer (some ⟨W0.heap.size, 0, none⟩)) (.pointer (some ⟨W0.heap.size + 2, 0, none⟩)) t6 t8 t9 t10 t11 t12 (.pointer (some ⟨F + 2, 0, none⟩)) j15 t16 t17 t18 t19 t20 t21 t22 t23 t24 t25 t26 t27 t28 t29 t30 t31 t32 t33 t34 t35 t36 t37 t38 t39 t40 t41 t42 t43 t44 t45 t46 t47 t48 (.int .i64 (((wkW wk).toNat : Nat) : Int)) j50 j51 j52 j53 j54 j55 (.tuple #[]) t57 t58 t59 t60 t61 t62 t63 t64 t65 t66 t67 t68 t69 t70 t71 t72 t73 t74 t75 t76
  refine RunsTo.bind (Stop := fun Sh g w => (fun l => Shun l ∨ BxL (F + 2) l) = Sh ∧ ∃ vo, g = G (b₁.at (a₁.put ((ops₁[i₁]?).bind (·.dst)) vo) (.inRegion ops₁ rest₁ :: k₁)) cs' ∧ w'.grownBy w none ∧ w.ownsRow w'.heap.size 9 1 vo (outF s.fr (nmK nm N) (ixF nm N).length).length ((outF s.fr (nmK nm N) (ixF nm N).length).map Value.string)) (RunsTo.walk hm2 (Go.ConcN.goes_mono (fun g w h => ⟨rfl, h⟩) (g3.2 _ (dl_idle _) _ n2 w' hn2))) ?_
  rintro _ _ w3 m3 t3 hm3 ⟨rfl, vo, rfl, hg3, ho3⟩
  have hblk : ∀ b, b < W0.heap.size → b ≠ A → M ≠ some b → w3.heap[b]? = W0.heap[b]? := fun b h1 h2 h3 => by
    rw [hg3.block b (by omega) (by simp), e12.low b ⟨by omega, by omega, by omega, by omega, by rw [c10]; exact h3⟩, hgr.block b h1 (by simp)]
  have hdone : ∀ mp, (if s.done then some s.mp else none) = some mp → M = some mp ∨ W0.heap.size ≤ mp := fun mp h => by
    rcases hd : s.done with _ | _
    · rw [hd] at h; cases h
    · rw [hd] at h
      obtain rfl := Option.some.inj h
      rcases g2.mo (by rw [e10.yes hd]; decide) with h1 | ⟨_, h1⟩
      · rw [c10] at h1; exact .inl h1
      · rw [c6] at h1
        exact .inr (by omega)
  have hdid : ∀ i, i < c.n → i % c.W < c.W ∧ i < (th (i % c.W)).i := fun i hi => by
    have h1 : i % c.W < c.W := Nat.mod_lt _ (by omega)
    have h2 := (e8.item _ h1).2.2 (by rw [e9 _ h1]; rfl)
    exact ⟨h1, by omega⟩
  have hmem : ∀ x, x ∈ s.con ↔ x ∈ S ∨ x ∈ conF nm N := fun x => by
    rw [e8.mem x, q5, q4, ← nmK_mem]
    refine or_congr Iff.rfl ⟨fun ⟨i, h1, _, _, h2⟩ => ⟨i, by omega, h2⟩, fun ⟨i, h1, h2⟩ => ⟨i, by omega, (hdid i (by omega)).1, .inl (hdid i (by omega)).2, h2⟩⟩
  have hout : outF s.fr (nmK nm N) (ixF nm N).length = newF S (conF nm N) := by
    have := outF_take S (conF nm N) (nmK nm N) s.fr (fun k hk => nmK_get (by rw [← conF_len]; exact hk)) (fun k hk => by
      rw [conF_len] at hk
      have h1 := e8.fr k (by omega)
      have h2 := hdid k (by omega)
      rw [q4, q5] at h1
      rcases hb : memB (nmK nm N k) S with _ | _
      · exact h1.2 ⟨h2.1, h2.2, memB_false.1 hb⟩
      · show s.fr k = false
        rcases hf : s.fr k with _ | _
        · rfl
        · exact absurd (memB_true.1 hb) (h1.1 hf).2.2) (ixF nm N).length (by rw [conF_len]; exact Nat.le_refl _)
    rw [this, ← conF_len, List.take_length]
  rw [hout] at ho3
  have hal := (alAt_end g2 e8 e9 e10 e11).keep (w' := w3) (B := w'.heap.size) (fun b hb => hg3.block b hb (by simp)) rfl
  rw [c3] at hal
  obtain ⟨n3, hn3⟩ := hnext (F + 2) w3 vo s.con _ (by omega) ⟨by rw [hg3.os, ← hgr.os]; exact e12.os, by rw [hg3.tape, e12.tape, hgr.tape], by rw [hg3.output, e12.output, hgr.output], by have := hg3.size; omega, hblk⟩ hal hdone hmem (fun l hl => by
      rcases hl with hl | ⟨ad, rfl, hb⟩
      · obtain ⟨ad, cs, fz, rfl, h1, h2⟩ := hSh l hl
        have h3 := (Array.getElem?_eq_some_iff.1 h2).1
        refine ⟨ad, cs, fz, rfl, h1, ?_⟩
        rw [hblk _ h3 (fun e => by rw [e, hA.1] at h2; cases h2) (fun e => by obtain ⟨es, ck, e1, _⟩ := hA.2.2.2 _ e; rw [e1] at h2; cases h2)]
        exact h2
      · have e : w3.heap[ad.block]? = w'.heap[F + 2]? := by rw [hb]; exact hg3.block _ (by omega) (by simp)
        have hgW := g2.g
        rw [c4] at hgW
        exact ⟨ad, _, (0, 0), rfl, by omega, e.trans hgW⟩) ⟨ho3.1, ho3.2.imp id fun ⟨g, cap, cur, e, hb, r⟩ => ⟨g, cap, cur, e, by omega, r⟩⟩
  exact RunsTo.walk hm3 hn3
end
end Go.Proofs.Ytnlopklbbajlbaa.Sw
