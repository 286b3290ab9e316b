/- LightOnce: WaitGroup.Wait() (printed by tools/gennb2.py). -/
import Derived.Test.YtnlopklbbajlbaaSwNB
set_option linter.unusedVariables false
set_option linter.unusedSimpArgs false
set_option maxRecDepth 100000
namespace Go.Proofs.Ytnlopklbbajlbaa.Sw
open Go Go.Conc Go.ConcN Go.RowKit
open Go.ConcR (DC0 stA smA)
noncomputable def LL12 : Code := (findLoop body12).getD .skip
noncomputable def LL12u : Code := (findLoop body12).getD .skip
/-- From here it comes back to gF, reading nothing. -/
def Back (gF g' : Goroutine) : Prop := g'.status = .running ∧ ∀ (D : World → World → Array Event → Prop) (hD : ∀ w, D w w #[]) (Stop : Goroutine → World → Prop) (n : Nat) (w : World), Goes Try.prog true AtRel D Stop n gF w → Goes Try.prog true AtRel D Stop (n + 100) g' w
theorem w_nz : (bits .and .u64 0 2147483648 != 0) = false := by decide +kernel
theorem tw_p1 : ∀ (a : Fin 32), IntKind.u64.wrap (wgE a 0 + 1) = wgE a 1 := by decide +kernel
theorem tw_i : ∀ (a : Fin 32), IntKind.i32.wrap (wgE a 0 / 4294967296) = (a.val : Int) := by decide +kernel
theorem wgE_inj {a b : Nat} (h : wgE a 0 = wgE b 0) : a = b := by unfold wgE at h; omega
theorem wgE_zero : wgE 0 0 = 0 := rfl

section
variable {c : TC} {q : AP} {Anch : Sh → Goroutine → World → Prop} {p : World → Prop} {cs : List Frame} {b₁ : Frame} {a₁ : Act} {ops₁ : Array Oper} {i₁ : Nat} {rest₁ : List Nat} {k₁ : List Item}
set_option maxHeartbeats 16000000 in
/-- ████ THE LOOP OF Wait. ████ -/
theorem waitHead (K : KS c none p) (hW : q.W ≤ 16) (hA : ∀ w s g', p w → ShAt 46 55 4 c w s → Back (G (b₁.at (a₁.put ((ops₁[i₁]?).bind (·.dst)) (.tuple #[])) (.inRegion ops₁ rest₁ :: k₁)) cs) g' → Anch s g' w) (bx : Nat) : ∀ (k vs : Nat) (j1 j2 j3 j4 j5 j6 j7 j8 j9 j10 j11 j12 j13 j14 j15 j16 j17 j18 j19 j20 j21 j22 j23 j24 j25 j26 j27 j28 j29 j30 j31 j32 j33 j34 j35 j36 j37 j38 j39 j40 j41 j42 j43 j44 j45 j46 j47 j48 j49 j50 j51 j52 j53 j54 j55 j56 j57 j58 j59 j60 j61 j62 j63 j64 j65 j66 j67 j68 j69 j70 j71 j72 j73 j74 j75 j76 j77 j78 j79 j80 j81 j82 j83 : Value),
    SU c q Anch none p k ⟨.w1, q.W, vs, bx⟩ (G ((Go.Conc.base 12).at ⟨#[.pointer (some ⟨c.Wg, 0, none⟩), j1, j2, j3, j4, j5, j6, j7, j8, j9, j10, j11, j12, j13, j14, j15, j16, j17, j18, j19, j20, j21, j22, j23, j24, j25, j26, j27, j28, j29, j30, j31, j32, j33, j34, j35, j36, j37, j38, j39, j40, j41, j42, j43, j44, j45, j46, j47, j48, j49, j50, j51, j52, j53, j54, j55, j56, j57, j58, j59, j60, j61, j62, j63, j64, j65, j66, j67, j68, j69, j70, j71, j72, j73, j74, j75, j76, j77, j78, j79, j80, j81, j82, j83], []⟩ [.code LL12, .inLoop LL12, .inBlock 0]) (b₁.at a₁ (.inRegion ops₁ (i₁ :: rest₁) :: k₁) :: cs)) := by
  have hp := K.st
  have hcg : ∀ w, p w → ∃ x : Int, w.cell? ⟨c.Wg, 0, none⟩ = some (.int .u64 x) := fun w hw => by
    obtain ⟨s, hs⟩ := K.live w hw
    exact ⟨_, hs.cSt⟩
  have hcs : ∀ w, p w → ∃ x : Int, w.cell? ⟨c.Wg, 1, none⟩ = some (.int .u32 x) := fun w hw => by
    obtain ⟨s, hs⟩ := K.live w hw
    exact ⟨_, hs.cSm⟩
  intro k
  induction k using Nat.strongRecOn with
  | _ k ih =>
  intro vs j1 j2 j3 j4 j5 j6 j7 j8 j9 j10 j11 j12 j13 j14 j15 j16 j17 j18 j19 j20 j21 j22 j23 j24 j25 j26 j27 j28 j29 j30 j31 j32 j33 j34 j35 j36 j37 j38 j39 j40 j41 j42 j43 j44 j45 j46 j47 j48 j49 j50 j51 j52 j53 j54 j55 j56 j57 j58 j59 j60 j61 j62 j63 j64 j65 j66 j67 j68 j69 j70 j71 j72 j73 j74 j75 j76 j77 j78 j79 j80 j81 j82 j83
  refine ⟨rfl, fun j hj => ?_⟩
  rw [show LL12 = LL12u from rfl]
  simp (config := { decide := true }) only [LL12u, findLoop, body12, Try.f12, Option.getD_some]
  (refine GU.ctl hp rfl (fun _ => stepG_block) ?_; refine GU.ctl hp rfl (fun _ => stepG_seq) ?_; refine GU.ctl hp rfl (fun _ => stepG_region) ?_; simp only [List.size_toArray, List.length_cons, List.length_nil, Nat.reduceAdd, Nat.zero_add, List.range, List.range.loop]; (iterate 3 (refine GU.value hp _ rfl rfl (by k_ne) (fun _ => by go_simp <;> rfl) (fun _ => by simp [go_sem, *]) ?_; walk_nrm)))
  (refine GU.call hp rfl rfl (by k_ne) rfl Try.func23 nm23 rfl ?_; walk_nrmf Try.f23)
  (refine GU.ctl hp rfl (fun _ => stepG_seq) ?_; refine GU.ctl hp rfl (fun _ => stepG_region) ?_; simp only [List.size_toArray, List.length_cons, List.length_nil, Nat.reduceAdd, Nat.zero_add, List.range, List.range.loop]; refine GU.value hp _ rfl rfl (by k_ne) (fun _ => by go_simp <;> rfl) (fun _ => by simp [go_sem, *]) ?_; walk_nrm; refine GU.ctl hp rfl (fun _ => stepG_region_end) ?_; refine GU.ctl hp rfl (fun _ => stepG_seq) ?_; refine GU.ctl hp rfl (fun _ => stepG_region) ?_; simp only [List.size_toArray, List.length_cons, List.length_nil, Nat.reduceAdd, Nat.zero_add, List.range, List.range.loop]; (iterate 3 (refine GU.value hp _ rfl rfl (by k_ne) (fun _ => by go_simp <;> rfl) (fun _ => by simp [go_sem, *]) ?_; walk_nrm)))
  -- STOP w1
  refine stopS K rfl rfl rfl (by simp) (fun w s hw hs hf => ?_)
  obtain ⟨pp, m2, m4, hpp, hg⟩ := hf
  obtain ⟨g1, g2, g3, g4, g5, g6⟩ : q.W = q.W ∧ s.wv = pp ∧ s.ww = 0 ∧ s.ws = 0 ∧ m2 = 0 ∧ m4 = 0 := hg
  have hc : w.cell? (stA c.Wg) = some (.int .u64 (wgE s.wv 0)) := by rw [← g3]; exact hs.cSt
  have ha : s.wv < 32 := by omega
  by_cases h0 : s.wv = 0
  · refine ⟨⟨.ke, q.W, vs, bx⟩, s, _, _, _, none, p, .inl ⟨h0, rfl⟩ |> fun h => ⟨h, rfl⟩, stepG_load_atomic rfl rfl (by k_ne) rfl Try.func40 x40_n x40_b x40_x .u64 x40_f (ad := stA c.Wg) rfl hc, hs, Eff.refl _ _ _, atm_r _ _, rfl, by simp, hw, ?_⟩
    rw [h0]
    clear hw hs g2 g3 g4 hc ha h0
    refine ⟨rfl, fun j2 hj2 => ?_⟩
    walk_nrm
    (refine GU.value hp _ rfl rfl (by k_ne) (fun _ => by go_simp <;> rfl) (fun _ => by simp [go_sem, *]) ?_; walk_nrm; refine GU.ctl hp rfl (fun _ => stepG_region_end) ?_; refine GU.ctl hp rfl (fun _ => stepG_ret') ?_)
    (refine GU.leave1 hp rfl rfl Try.func23 rfl ?_; walk_nrm)
    (refine GU.value hp _ rfl rfl (by k_ne) (fun _ => by go_simp <;> rfl) (fun _ => by simp [go_sem, *]) ?_; walk_nrm; refine GU.ctl hp rfl (fun _ => stepG_region_end) ?_; refine GU.ctl hp rfl (fun _ => stepG_seq) ?_; refine GU.ctl hp rfl (fun _ => stepG_region) ?_; simp only [List.size_toArray, List.length_cons, List.length_nil, Nat.reduceAdd, Nat.zero_add, List.range, List.range.loop]; (iterate 4 (refine GU.value hp _ rfl rfl (by k_ne) (fun _ => by go_simp <;> rfl) (fun _ => by simp [go_sem, *]) ?_; walk_nrm)); refine GU.ctl hp rfl (fun _ => stepG_region_end) ?_; refine GU.ctl hp rfl (fun _ => stepG_seq) ?_; refine GU.ctl hp rfl (fun _ => stepG_region) ?_; simp only [List.size_toArray, List.length_cons, List.length_nil, Nat.reduceAdd, Nat.zero_add, List.range, List.range.loop]; (iterate 4 (refine GU.value hp _ rfl rfl (by k_ne) (fun _ => by go_simp <;> rfl) (fun _ => by simp [go_sem, *]) ?_; walk_nrm)); refine GU.ctl hp rfl (fun _ => stepG_region_end) ?_; (iterate 2 (refine GU.ctl hp rfl (fun _ => stepG_seq) ?_)); refine GU.ctl hp rfl (fun _ => stepG_region) ?_; simp only [List.size_toArray, List.length_cons, List.length_nil, Nat.reduceAdd, Nat.zero_add, List.range, List.range.loop]; (iterate 2 (refine GU.value hp _ rfl rfl (by k_ne) (fun _ => by go_simp <;> rfl) (fun _ => by simp [go_sem, *]) ?_; walk_nrm)); refine GU.ctl hp rfl (fun _ => stepG_region_end) ?_; refine GU.ctl hp rfl (fun _ => stepG_cond (t := true) rfl) ?_; simp only [if_true, if_false, Bool.false_eq_true, ↓reduceIte]; refine GU.ctl hp rfl (fun _ => stepG_seq) ?_; refine GU.ctl hp rfl (fun _ => stepG_cond (t := true) rfl) ?_; simp only [if_true, if_false, Bool.false_eq_true, ↓reduceIte]; refine GU.ctl hp rfl (fun _ => stepG_seq) ?_; refine GU.ctl hp rfl (fun _ => stepG_region) ?_; simp only [List.size_toArray, List.length_cons, List.length_nil, Nat.reduceAdd, Nat.zero_add, List.range, List.range.loop])
    rw [w_lo (by omega) (by omega), w_hi (by omega) (by omega)]
    skip
    -- STOP ke
    refine stopS K rfl rfl rfl (by simp) (fun w s hw hs hf => ⟨⟨.aq, q.W, vs, bx⟩, s, _, _, _, none, p, by simp [StepS], sEnable rfl rfl (by k_ne) rfl, hs, Eff.refl _ _ _, by simp [EvS], rfl, by simp, hw, ⟨rfl, fun j3 hj3 => ?_⟩⟩)
    clear hw hs hf
    walk_nrm
    (refine GU.ctl hp rfl (fun _ => stepG_region_end) ?_; refine GU.ctl hp rfl (fun _ => stepG_region) ?_; simp only [List.size_toArray, List.length_cons, List.length_nil, Nat.reduceAdd, Nat.zero_add, List.range, List.range.loop]; refine GU.value hp _ rfl rfl (by k_ne) (fun _ => by go_simp <;> rfl) (fun _ => by simp [go_sem, *]) ?_; walk_nrm)
    refine GU.conv hp rfl rfl (by k_ne) rfl rfl u59 u61 z55 (fun w hw => by obtain ⟨x, hx⟩ := hcg w hw; exact ⟨_, hx⟩) ?_
    walk_nrm
    -- STOP aq
    exact stopS_aq K rfl rfl rfl rfl (fun w s hw hs hf => ⟨_, sAcquire (ad := stA c.Wg) rfl rfl (by k_ne) rfl (by simp [Act.eval, stA]), hA w s _ hw hs ⟨rfl, fun D hD Stop n w hk => by
      walk_nrm
      (refine LG.ctl hD rfl (fun _ => stepG_region_end) ?_; (iterate 2 (refine LG.ctl hD rfl (fun _ => stepG_seq) ?_)); refine LG.ctl hD rfl (fun _ => stepG_region) ?_; simp only [List.size_toArray, List.length_cons, List.length_nil, Nat.reduceAdd, Nat.zero_add, List.range, List.range.loop]; (iterate 8 (refine LG.value hD _ rfl rfl (by k_ne) (fun _ => by go_simp <;> rfl) (fun _ => by simp [go_sem, *]) ?_; walk_nrm)); (iterate 2 (refine LG.unwanted hD rfl rfl ?_; walk_nrm)); refine LG.value hD _ rfl rfl (by k_ne) (fun _ => by go_simp <;> rfl) (fun _ => by simp [go_sem, *]) ?_; walk_nrm; refine LG.ctl hD rfl (fun _ => stepG_region_end) ?_; refine LG.ctl hD rfl (fun _ => stepG_cond (t := false) rfl) ?_; simp only [if_true, if_false, Bool.false_eq_true, ↓reduceIte]; refine LG.ctl hD rfl (fun _ => stepG_skip) ?_; refine LG.ctl hD rfl (fun _ => stepG_ret') ?_; simp only [w_nz])
      (refine LG.leave0 hD rfl rfl Try.func12 rfl ?_; walk_nrm)
      exact Go.ConcM.goes_le (by omega) hk⟩⟩)
  · refine ⟨⟨.w2, q.W, s.wv, bx⟩, s, _, _, _, none, p, ⟨.inr ⟨h0, rfl⟩, rfl⟩, stepG_load_atomic rfl rfl (by k_ne) rfl Try.func40 x40_n x40_b x40_x .u64 x40_f (ad := stA c.Wg) rfl hc, hs, Eff.refl _ _ _, atm_r _ _, rfl, by simp, hw, ?_⟩
    generalize s.wv = v at *
    clear hw hs g2 g3 g4 hc
    refine ⟨rfl, fun j2 hj2 => ?_⟩
    walk_nrm
    (refine GU.value hp _ rfl rfl (by k_ne) (fun _ => by go_simp <;> rfl) (fun _ => by simp [go_sem, *]) ?_; walk_nrm; refine GU.ctl hp rfl (fun _ => stepG_region_end) ?_; refine GU.ctl hp rfl (fun _ => stepG_ret') ?_)
    (refine GU.leave1 hp rfl rfl Try.func23 rfl ?_; walk_nrm)
    (refine GU.value hp _ rfl rfl (by k_ne) (fun _ => by go_simp <;> rfl) (fun _ => by simp [go_sem, *]) ?_; walk_nrm; refine GU.ctl hp rfl (fun _ => stepG_region_end) ?_; refine GU.ctl hp rfl (fun _ => stepG_seq) ?_; refine GU.ctl hp rfl (fun _ => stepG_region) ?_; simp only [List.size_toArray, List.length_cons, List.length_nil, Nat.reduceAdd, Nat.zero_add, List.range, List.range.loop]; (iterate 4 (refine GU.value hp _ rfl rfl (by k_ne) (fun _ => by go_simp <;> rfl) (fun _ => by simp [go_sem, *]) ?_; walk_nrm)); refine GU.ctl hp rfl (fun _ => stepG_region_end) ?_; refine GU.ctl hp rfl (fun _ => stepG_seq) ?_; refine GU.ctl hp rfl (fun _ => stepG_region) ?_; simp only [List.size_toArray, List.length_cons, List.length_nil, Nat.reduceAdd, Nat.zero_add, List.range, List.range.loop]; (iterate 4 (refine GU.value hp _ rfl rfl (by k_ne) (fun _ => by go_simp <;> rfl) (fun _ => by simp [go_sem, *]) ?_; walk_nrm)); refine GU.ctl hp rfl (fun _ => stepG_region_end) ?_; (iterate 2 (refine GU.ctl hp rfl (fun _ => stepG_seq) ?_)); refine GU.ctl hp rfl (fun _ => stepG_region) ?_; simp only [List.size_toArray, List.length_cons, List.length_nil, Nat.reduceAdd, Nat.zero_add, List.range, List.range.loop]; (iterate 2 (refine GU.value hp _ rfl rfl (by k_ne) (fun _ => by go_simp <;> rfl) (fun _ => by simp [go_sem, *]) ?_; walk_nrm)); refine GU.ctl hp rfl (fun _ => stepG_region_end) ?_)
    rw [w_lo (by omega) (by omega), w_hi (by omega) (by omega)]
    have e1 : ((v : Int) == 0) = false := beq_eq_false_iff_ne.2 (by omega)
    skip
    rw [e1]
    (refine GU.ctl hp rfl (fun _ => stepG_cond (t := false) rfl) ?_; simp only [if_true, if_false, Bool.false_eq_true, ↓reduceIte]; refine GU.ctl hp rfl (fun _ => stepG_skip) ?_; refine GU.ctl hp rfl (fun _ => stepG_seq) ?_; refine GU.ctl hp rfl (fun _ => stepG_region) ?_; simp only [List.size_toArray, List.length_cons, List.length_nil, Nat.reduceAdd, Nat.zero_add, List.range, List.range.loop]; (iterate 6 (refine GU.value hp _ rfl rfl (by k_ne) (fun _ => by go_simp <;> rfl) (fun _ => by simp [go_sem, *]) ?_; walk_nrm)))
    (refine GU.call hp rfl rfl (by k_ne) rfl Try.func34 nm34 rfl ?_; walk_nrmf Try.f34)
    (refine GU.ctl hp rfl (fun _ => stepG_seq) ?_; refine GU.ctl hp rfl (fun _ => stepG_region) ?_; simp only [List.size_toArray, List.length_cons, List.length_nil, Nat.reduceAdd, Nat.zero_add, List.range, List.range.loop]; refine GU.value hp _ rfl rfl (by k_ne) (fun _ => by go_simp <;> rfl) (fun _ => by simp [go_sem, *]) ?_; walk_nrm; refine GU.ctl hp rfl (fun _ => stepG_region_end) ?_; refine GU.ctl hp rfl (fun _ => stepG_seq) ?_; refine GU.ctl hp rfl (fun _ => stepG_region) ?_; simp only [List.size_toArray, List.length_cons, List.length_nil, Nat.reduceAdd, Nat.zero_add, List.range, List.range.loop]; (iterate 5 (refine GU.value hp _ rfl rfl (by k_ne) (fun _ => by go_simp <;> rfl) (fun _ => by simp [go_sem, *]) ?_; walk_nrm)))
    rw [tw_p1 ⟨v, ha⟩]
    -- STOP w2
    refine stopS K rfl rfl rfl (by simp) (fun w s hw hs hf => ?_)
    obtain ⟨pp, m2, m4, hpp, hg⟩ := hf
    obtain ⟨g1, g2, g3, g4, g5, g6, g7⟩ : q.W = q.W ∧ s.wv = pp ∧ s.ww = 0 ∧ s.ws = 0 ∧ m2 = 0 ∧ m4 = 0 ∧ v ≠ 0 := hg
    have hc : w.cell? (stA c.Wg) = some (.int .u64 (wgE s.wv 0)) := by rw [← g3]; exact hs.cSt
    by_cases h1 : s.wv = v
    · have hset : ShAt 46 55 4 c (w.setCell (stA c.Wg) (.int .u64 (wgE v 1))) { s with ww := 1 } := by
        have e : ({ s with ww := 1 } : Sh) = { s with wv := v, ww := 1 } := by rw [← h1]
        rw [e]
        exact hs.setSt v 1
      rw [h1] at hc
      have heff : Eff c s none w (w.setCell (stA c.Wg) (.int .u64 (wgE v 1))) := Eff.set _ _ _ _ _ (.inr (.inl rfl))
      refine ⟨⟨.wx, q.W, v, bx⟩, { s with ww := 1 }, _, _, _, none, p, .inl ⟨h1, rfl, rfl⟩, stepG_cas_hit rfl rfl (by k_ne) rfl Try.func47 x47_n x47_b x47_x .u64 x47_f (ad := stA c.Wg) rfl rfl rfl hc (hs.thG _), hset, heff, atm_rw _, (aside_setCell _ _ _).size, by simp, K.eff hw hs heff hset (fun h => ⟨h, rfl⟩), ?_⟩
      clear hw hs g2 g3 g4 hc h1 hset heff
      refine ⟨rfl, fun j3 hj3 => ?_⟩
      walk_nrm
      (refine GU.value hp _ rfl rfl (by k_ne) (fun _ => by go_simp <;> rfl) (fun _ => by simp [go_sem, *]) ?_; walk_nrm; refine GU.ctl hp rfl (fun _ => stepG_region_end) ?_; refine GU.ctl hp rfl (fun _ => stepG_ret') ?_)
      (refine GU.leave1 hp rfl rfl Try.func34 rfl ?_; walk_nrm)
      (refine GU.ctl hp rfl (fun _ => stepG_region_end) ?_; refine GU.ctl hp rfl (fun _ => stepG_cond (t := true) rfl) ?_; simp only [if_true, if_false, Bool.false_eq_true, ↓reduceIte]; (iterate 2 (refine GU.ctl hp rfl (fun _ => stepG_seq) ?_)); refine GU.ctl hp rfl (fun _ => stepG_region) ?_; simp only [List.size_toArray, List.length_cons, List.length_nil, Nat.reduceAdd, Nat.zero_add, List.range, List.range.loop]; (iterate 4 (refine GU.value hp _ rfl rfl (by k_ne) (fun _ => by go_simp <;> rfl) (fun _ => by simp [go_sem, *]) ?_; walk_nrm)); refine GU.ctl hp rfl (fun _ => stepG_region_end) ?_; refine GU.ctl hp rfl (fun _ => stepG_cond (t := true) rfl) ?_; simp only [if_true, if_false, Bool.false_eq_true, ↓reduceIte]; refine GU.ctl hp rfl (fun _ => stepG_region) ?_; simp only [List.size_toArray, List.length_cons, List.length_nil, Nat.reduceAdd, Nat.zero_add, List.range, List.range.loop]; (iterate 3 (refine GU.value hp _ rfl rfl (by k_ne) (fun _ => by go_simp <;> rfl) (fun _ => by simp [go_sem, *]) ?_; walk_nrm)))
      refine GU.conv hp rfl rfl (by k_ne) rfl rfl u68 u61 z32 (fun w hw => by obtain ⟨x, hx⟩ := hcs w hw; exact ⟨_, hx⟩) ?_
      walk_nrm
      -- STOP wx
      refine stopS K rfl rfl rfl (by simp) (fun w s hw hs hf => ⟨⟨.w3, q.W, v, bx⟩, s, _, _, _, none, p, by simp [StepS], sWrite (ad := smA c.Wg) rfl rfl (by k_ne) rfl (by simp [Act.eval, smA]), hs, Eff.refl _ _ _, by simp [EvS], rfl, by simp, hw, ⟨rfl, fun j4 hj4 => ?_⟩⟩)
      clear hw hs hf
      walk_nrm
      (refine GU.ctl hp rfl (fun _ => stepG_region_end) ?_; refine GU.ctl hp rfl (fun _ => stepG_seq) ?_; refine GU.ctl hp rfl (fun _ => stepG_region) ?_; simp only [List.size_toArray, List.length_cons, List.length_nil, Nat.reduceAdd, Nat.zero_add, List.range, List.range.loop]; refine GU.value hp _ rfl rfl (by k_ne) (fun _ => by go_simp <;> rfl) (fun _ => by simp [go_sem, *]) ?_; walk_nrm; refine GU.ctl hp rfl (fun _ => stepG_region_end) ?_; (iterate 2 (refine GU.ctl hp rfl (fun _ => stepG_seq) ?_)); refine GU.ctl hp rfl (fun _ => stepG_region) ?_; simp only [List.size_toArray, List.length_cons, List.length_nil, Nat.reduceAdd, Nat.zero_add, List.range, List.range.loop]; (iterate 4 (refine GU.value hp _ rfl rfl (by k_ne) (fun _ => by go_simp <;> rfl) (fun _ => by simp [go_sem, *]) ?_; walk_nrm)))
      rw [w_and ha (by omega)]
      (refine GU.unwanted hp rfl rfl ?_; walk_nrm; refine GU.value hp _ rfl rfl (by k_ne) (fun _ => by go_simp <;> rfl) (fun _ => by simp [go_sem, *]) ?_; walk_nrm; refine GU.ctl hp rfl (fun _ => stepG_region_end) ?_; refine GU.ctl hp rfl (fun _ => stepG_cond (t := false) rfl) ?_; simp only [if_true, if_false, Bool.false_eq_true, ↓reduceIte]; refine GU.ctl hp rfl (fun _ => stepG_skip) ?_; refine GU.ctl hp rfl (fun _ => stepG_seq) ?_; refine GU.ctl hp rfl (fun _ => stepG_region) ?_; simp only [List.size_toArray, List.length_cons, List.length_nil, Nat.reduceAdd, Nat.zero_add, List.range, List.range.loop]; (iterate 4 (refine GU.value hp _ rfl rfl (by k_ne) (fun _ => by go_simp <;> rfl) (fun _ => by simp [go_sem, *]) ?_; walk_nrm)))
      -- STOP w3
      refine stopS_sem K rfl rfl rfl rfl (fun w s hw hs h => stepG_semacquire_wait rfl rfl rfl Try.func36 x36_n x36_b x36_x x36_f (ad := smA c.Wg) (by simp [Act.eval, smA]) (by rw [hs.cSm, h]; rfl)) (fun w s hw hs hf hne => ?_)
      have hset := hs.setSm (s.ws - 1)
      have heff : Eff c s none w (w.setCell (smA c.Wg) (.int .u32 ((s.ws - 1 : Nat) : Int))) := Eff.set _ _ _ _ _ (.inr (.inl rfl))
      have ew : (s.ws : Int) - 1 = ((s.ws - 1 : Nat) : Int) := by omega
      refine ⟨⟨.w4, q.W, v, bx⟩, { s with ws := s.ws - 1 }, _, _, _, none, p, ⟨by omega, rfl, rfl⟩, stepG_semacquire rfl rfl (by k_ne) rfl Try.func36 x36_n x36_b x36_x x36_f (ad := smA c.Wg) (by simp [Act.eval, smA]) hs.cSm (by omega) (hs.thG _), by rw [ew]; exact hset, by rw [ew]; exact heff, rfl, (aside_setCell _ _ _).size, by simp, by rw [ew]; exact K.eff hw hs heff hset (fun h => ⟨h, rfl⟩), ?_⟩
      clear hw hs hf hset heff ew hne
      refine ⟨rfl, fun j5 hj5 => ?_⟩
      walk_nrm
      (refine GU.ctl hp rfl (fun _ => stepG_region_end) ?_; refine GU.ctl hp rfl (fun _ => stepG_seq) ?_; refine GU.ctl hp rfl (fun _ => stepG_region) ?_; simp only [List.size_toArray, List.length_cons, List.length_nil, Nat.reduceAdd, Nat.zero_add, List.range, List.range.loop]; (iterate 3 (refine GU.value hp _ rfl rfl (by k_ne) (fun _ => by go_simp <;> rfl) (fun _ => by simp [go_sem, *]) ?_; walk_nrm)))
      (refine GU.call hp rfl rfl (by k_ne) rfl Try.func23 nm23 rfl ?_; walk_nrmf Try.f23)
      (refine GU.ctl hp rfl (fun _ => stepG_seq) ?_; refine GU.ctl hp rfl (fun _ => stepG_region) ?_; simp only [List.size_toArray, List.length_cons, List.length_nil, Nat.reduceAdd, Nat.zero_add, List.range, List.range.loop]; refine GU.value hp _ rfl rfl (by k_ne) (fun _ => by go_simp <;> rfl) (fun _ => by simp [go_sem, *]) ?_; walk_nrm; refine GU.ctl hp rfl (fun _ => stepG_region_end) ?_; refine GU.ctl hp rfl (fun _ => stepG_seq) ?_; refine GU.ctl hp rfl (fun _ => stepG_region) ?_; simp only [List.size_toArray, List.length_cons, List.length_nil, Nat.reduceAdd, Nat.zero_add, List.range, List.range.loop]; (iterate 3 (refine GU.value hp _ rfl rfl (by k_ne) (fun _ => by go_simp <;> rfl) (fun _ => by simp [go_sem, *]) ?_; walk_nrm)))
      -- STOP w4
      refine stopS K rfl rfl rfl (by simp) (fun w s hw hs hf => ?_)
      obtain ⟨pp, m2, m4, hpp, hg⟩ := hf
      obtain ⟨g1, g2, g3, g4, g5, g6⟩ : q.W = q.W ∧ pp = 0 ∧ s.wv = 0 ∧ s.ww = 0 ∧ s.ws = 0 ∧ m2 = 0 ∧ m4 = 0 := hg
      have hc : w.cell? (stA c.Wg) = some (.int .u64 0) := by have := hs.cSt; rw [g3, g4] at this; exact this
      refine ⟨⟨.ke, q.W, v, bx⟩, s, _, _, _, none, p, by simp [StepS], stepG_load_atomic rfl rfl (by k_ne) rfl Try.func40 x40_n x40_b x40_x .u64 x40_f (ad := stA c.Wg) rfl hc, hs, Eff.refl _ _ _, atm_r _ _, rfl, by simp, hw, ?_⟩
      clear hw hs g2 g3 g4 hc
      refine ⟨rfl, fun j6 hj6 => ?_⟩
      walk_nrm
      (refine GU.value hp _ rfl rfl (by k_ne) (fun _ => by go_simp <;> rfl) (fun _ => by simp [go_sem, *]) ?_; walk_nrm; refine GU.ctl hp rfl (fun _ => stepG_region_end) ?_; refine GU.ctl hp rfl (fun _ => stepG_ret') ?_)
      (refine GU.leave1 hp rfl rfl Try.func23 rfl ?_; walk_nrm)
      ((iterate 2 (refine GU.value hp _ rfl rfl (by k_ne) (fun _ => by go_simp <;> rfl) (fun _ => by simp [go_sem, *]) ?_; walk_nrm)); refine GU.ctl hp rfl (fun _ => stepG_region_end) ?_; refine GU.ctl hp rfl (fun _ => stepG_seq) ?_; refine GU.ctl hp rfl (fun _ => stepG_cond (t := true) rfl) ?_; simp only [if_true, if_false, Bool.false_eq_true, ↓reduceIte]; refine GU.ctl hp rfl (fun _ => stepG_seq) ?_; refine GU.ctl hp rfl (fun _ => stepG_region) ?_; simp only [List.size_toArray, List.length_cons, List.length_nil, Nat.reduceAdd, Nat.zero_add, List.range, List.range.loop])
      -- STOP ke
      refine stopS K rfl rfl rfl (by simp) (fun w s hw hs hf => ⟨⟨.aq, q.W, v, bx⟩, s, _, _, _, none, p, by simp [StepS], sEnable rfl rfl (by k_ne) rfl, hs, Eff.refl _ _ _, by simp [EvS], rfl, by simp, hw, ⟨rfl, fun j7 hj7 => ?_⟩⟩)
      clear hw hs hf
      walk_nrm
      (refine GU.ctl hp rfl (fun _ => stepG_region_end) ?_; refine GU.ctl hp rfl (fun _ => stepG_region) ?_; simp only [List.size_toArray, List.length_cons, List.length_nil, Nat.reduceAdd, Nat.zero_add, List.range, List.range.loop]; refine GU.value hp _ rfl rfl (by k_ne) (fun _ => by go_simp <;> rfl) (fun _ => by simp [go_sem, *]) ?_; walk_nrm)
      refine GU.conv hp rfl rfl (by k_ne) rfl rfl u59 u61 z55 (fun w hw => by obtain ⟨x, hx⟩ := hcg w hw; exact ⟨_, hx⟩) ?_
      walk_nrm
      -- STOP aq
      exact stopS_aq K rfl rfl rfl rfl (fun w s hw hs hf => ⟨_, sAcquire (ad := stA c.Wg) rfl rfl (by k_ne) rfl (by simp [Act.eval, stA]), hA w s _ hw hs ⟨rfl, fun D hD Stop n w hk => by
        walk_nrm
        (refine LG.ctl hD rfl (fun _ => stepG_region_end) ?_; (iterate 2 (refine LG.ctl hD rfl (fun _ => stepG_seq) ?_)); refine LG.ctl hD rfl (fun _ => stepG_region) ?_; simp only [List.size_toArray, List.length_cons, List.length_nil, Nat.reduceAdd, Nat.zero_add, List.range, List.range.loop]; refine LG.value hD _ rfl rfl (by k_ne) (fun _ => by go_simp <;> rfl) (fun _ => by simp [go_sem, *]) ?_; walk_nrm; refine LG.ctl hD rfl (fun _ => stepG_region_end) ?_; refine LG.ctl hD rfl (fun _ => stepG_cond (t := false) rfl) ?_; simp only [if_true, if_false, Bool.false_eq_true, ↓reduceIte]; refine LG.ctl hD rfl (fun _ => stepG_skip) ?_; refine LG.ctl hD rfl (fun _ => stepG_ret') ?_; simp only [w_nz])
        (refine LG.leave0 hD rfl rfl Try.func12 rfl ?_; walk_nrm)
        exact Go.ConcM.goes_le (by omega) hk⟩⟩)
    · refine ⟨⟨.w1, q.W, v, bx⟩, s, _, _, _, none, p, .inr ⟨h1, rfl, rfl⟩, stepG_cas_miss rfl rfl (by k_ne) rfl Try.func47 x47_n x47_b x47_x .u64 x47_f (ad := stA c.Wg) rfl rfl rfl hc (hs.thG _) (fun e => h1 (wgE_inj e)), hs, Eff.refl _ _ _, atm_r _ _, rfl, by simp, hw, ?_⟩
      clear hw hs g2 g3 g4 hc h1
      refine ⟨rfl, fun j3 hj3 => ?_⟩
      walk_nrm
      (refine GU.value hp _ rfl rfl (by k_ne) (fun _ => by go_simp <;> rfl) (fun _ => by simp [go_sem, *]) ?_; walk_nrm; refine GU.ctl hp rfl (fun _ => stepG_region_end) ?_; refine GU.ctl hp rfl (fun _ => stepG_ret') ?_)
      (refine GU.leave1 hp rfl rfl Try.func34 rfl ?_; walk_nrm)
      (refine GU.ctl hp rfl (fun _ => stepG_region_end) ?_; refine GU.ctl hp rfl (fun _ => stepG_cond (t := false) rfl) ?_; simp only [if_true, if_false, Bool.false_eq_true, ↓reduceIte]; refine GU.ctl hp rfl (fun _ => stepG_skip) ?_; refine GU.ctl hp rfl (fun _ => stepG_inBlock) ?_)
      refine GU.ctl hp rfl (fun _ => stepG_inLoop) ?_
      exact (ih j2 (by omega) v _ _ _ _ _ _ _ _ _ _ _ _ _ _ _ _ _ _ _ _ _ _ _ _ _ _ _ _ _ _ _ _ _ _ _ _ _ _ _ _ _ _ _ _ _ _ _ _ _ _ _ _ _ _ _ _ _ _ _ _ _ _ _ _ _ _ _ _ _ _ _ _ _ _ _ _ _ _ _ _ _ _ _).2 j3 hj3
set_option maxHeartbeats 16000000 in
/-- ████ wg.Wait() ████ -/
theorem waitL (K : KS c none p) (hW : q.W ≤ 16) (hA : ∀ w s g', p w → ShAt 46 55 4 c w s → Back (G (b₁.at (a₁.put ((ops₁[i₁]?).bind (·.dst)) (.tuple #[])) (.inRegion ops₁ rest₁ :: k₁)) cs) g' → Anch s g' w) (bx vs k : Nat) :
    SU c q Anch none p k ⟨.kd, q.W, vs, bx⟩ (G ((Go.Conc.base 12).at ⟨#[.pointer (some ⟨c.Wg, 0, none⟩), undef, undef, undef, undef, undef, undef, undef, undef, undef, undef, undef, undef, undef, undef, undef, undef, undef, undef, undef, undef, undef, undef, undef, undef, undef, undef, undef, undef, undef, undef, undef, undef, undef, undef, undef, undef, undef, undef, undef, undef, undef, undef, undef, undef, undef, undef, undef, undef, undef, undef, undef, undef, undef, undef, undef, undef, undef, undef, undef, undef, undef, undef, undef, undef, undef, undef, undef, undef, undef, undef, undef, undef, undef, undef, undef, undef, undef, undef, undef, undef, undef, undef, undef], []⟩ [.code body12]) (b₁.at a₁ (.inRegion ops₁ (i₁ :: rest₁) :: k₁) :: cs)) := by
  have hp := K.st
  refine ⟨rfl, fun j hj => ?_⟩
  have hh := waitHead K hW hA bx j vs
  simp only [body12, Try.f12, Option.getD_some]
  (refine GU.ctl hp rfl (fun _ => stepG_seq) ?_; refine GU.ctl hp rfl (fun _ => stepG_cond (t := true) rfl) ?_; simp only [if_true, if_false, Bool.false_eq_true, ↓reduceIte]; refine GU.ctl hp rfl (fun _ => stepG_region) ?_; simp only [List.size_toArray, List.length_cons, List.length_nil, Nat.reduceAdd, Nat.zero_add, List.range, List.range.loop])
  -- STOP kd
  refine stopS K rfl rfl rfl (by simp) (fun w s hw hs hf => ⟨⟨.w1, q.W, vs, bx⟩, s, _, _, _, none, p, by simp [StepS], sDisable rfl rfl (by k_ne) rfl, hs, Eff.refl _ _ _, by simp [EvS], rfl, by simp, hw, ⟨rfl, fun j2 hj2 => ?_⟩⟩)
  clear hw hs hf
  walk_nrm
  (refine GU.ctl hp rfl (fun _ => stepG_region_end) ?_; refine GU.ctl hp rfl (fun _ => stepG_block) ?_)
  refine GU.ctl hp rfl (fun _ => stepG_loop) ?_
  exact (hh _ _ _ _ _ _ _ _ _ _ _ _ _ _ _ _ _ _ _ _ _ _ _ _ _ _ _ _ _ _ _ _ _ _ _ _ _ _ _ _ _ _ _ _ _ _ _ _ _ _ _ _ _ _ _ _ _ _ _ _ _ _ _ _ _ _ _ _ _ _ _ _ _ _ _ _ _ _ _ _ _ _ _).2 j2 hj2
end
end Go.Proofs.Ytnlopklbbajlbaa.Sw
