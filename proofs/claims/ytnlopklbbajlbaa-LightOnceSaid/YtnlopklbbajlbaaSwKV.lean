/- LightOnce: the walk through a deferred Unlock. -/
import Derived.Test.YtnlopklbbajlbaaSwKU
set_option linter.unusedVariables false
set_option linter.unusedSimpArgs false
namespace Go.Proofs.Ytnlopklbbajlbaa.Sw
open Go Go.Conc Go.ConcN Go.RowKit
open Go.ConcR (DC0 stA smA)

theorem put_defers (a : Act) (d : Option Tmp) (v : Value) : (a.put d v).defers = a.defers := by cases d <;> rfl
/-- Behind Unlock. -/
def aftU (b : Bool) (cN i : Nat) (old : MuW) (aw sv : Bool) (it : Nat) (r : Bool) (bx m : Nat) : Wk := if b then ⟨.md, cN, false, i, old, false, false, it, r, bx, m⟩ else ⟨.wf, cN, false, i, old, aw, sv, it, r, bx, m⟩

section
variable {c : TC} {q : AP} {bx : Nat} {p : World → Prop}
set_option maxRecDepth 100000 in
set_option maxHeartbeats 16000000 in
theorem tail45 (K : KN c bx p) {b : Bool} {i it m : Nat} {aw sv r : Bool} {cs : List Frame} {cF : Frame} (hcF : cF.mode = .returning) (k cN : Nat) (hcN : cN ≤ 16)
    (next : ∀ old, WU c q bx p k (aftU b cN i old aw sv it r bx m) (G cF cs)) (old : MuW) (a : Act) (ha : a.defers = []) (a' : Act) (ha' : a'.defers = []) {ops' : Array Oper} {i' : Nat} :
    WU c q bx p k ⟨.ue, 0, b, i, old, aw, sv, it, r, bx, m⟩ (G ((Go.Conc.base 45).at a [.inRegion #[⟨some 20, .call { callee := .value (.func 16), args := #[], argTypes := #[] }, 0, "mutex.go:205", #[], none⟩] [0]]) ((baseD 30).at a' [.inRegion ops' [i']] :: cF :: cs)) := by
  have hp := K.st
  refine ⟨rfl, fun j hj => ?_⟩
  obtain ⟨t, d⟩ := a
  obtain ⟨t', d'⟩ := a'
  simp only at ha ha'
  subst ha ha'
  refine stopW K rfl rfl rfl (by simp) (by simp) (fun w s hw hs hf => ⟨{ aftU b 0 i old aw sv it r bx m with c := 0 }, cN, s, _, _, _, by cases b <;> simp [Step, aftU], by cases b <;> simp [bare, aftU, hcN], sEnable rfl (by rfl) (by k_ne) rfl, hs, Eff.refl _ _ _, rfl, by simp [EvW], by cases b <;> simp [aftU], ?_⟩)
  clear hw hs hf
  have e : ({ ({ aftU b 0 i old aw sv it r bx m with c := 0 } : Wk) with c := cN } : Wk) = aftU b cN i old aw sv it r bx m := by cases b <;> rfl
  rw [e]
  refine ⟨by cases b <;> rfl, fun j hj => ?_⟩
  (refine GU.ctl hp rfl (fun _ => stepG_region_end) ?_; refine GU.ctl hp rfl (fun _ => stepG_end) ?_)
  refine GU.leave0 hp rfl rfl Try.func45 rfl ?_
  (refine GU.ctl hp rfl (fun _ => stepG_region_end) ?_; refine GU.ctl hp rfl (fun _ => stepG_end) ?_)
  refine GU.leaveD hp rfl (put_defers _ _ _) Try.func30 rfl hcF ?_
  exact (next old).2 j (by omega)

set_option maxRecDepth 100000 in
set_option maxHeartbeats 16000000 in
/-- ████ A DEFERRED Unlock. ████ -/
theorem unlockD (K : KN c bx p) (hB : q.B < 64) {o : Nat} {b : Bool} (hm : mxA c b = ⟨c.A, o, none⟩) (hms : msA c b = ⟨c.A, o + 1, none⟩) {i it m : Nat} {old : MuW} {aw sv r : Bool} {cs : List Frame} {cF : Frame} (hcF : cF.mode = .returning) (k cN : Nat) (hcN : cN ≤ 16)
    (next : ∀ old, WU c q bx p k (aftU b cN i old aw sv it r bx m) (G cF cs)) :
    WU c q bx p k ⟨.ur, 0, b, i, old, aw, sv, it, r, bx, m⟩ (G ((baseD 30).at ⟨#[.pointer (some ⟨c.A, o, none⟩), undef, undef, undef, undef, undef], []⟩ [.code body30]) (cF :: cs)) := by
  have hp := K.st
  have hcm : ∀ w, p w → ∃ x : MuW, w.cell? ⟨c.A, o, none⟩ = some (.int .i32 (enc x)) := fun w hw => by
    obtain ⟨s, hs⟩ := K.live w hw
    exact ⟨_, by rw [← hm]; exact hs.cMx b⟩
  refine ⟨rfl, fun j hj => ?_⟩
  simp only [body30, Try.f30, Option.getD_some]
  (refine GU.ctl hp rfl (fun _ => stepG_region) ?_; simp only [List.size_toArray, List.length_cons, List.length_nil, Nat.reduceAdd, Nat.zero_add, List.range, List.range.loop]; (iterate 3 (refine GU.value hp _ rfl rfl (by k_ne) (fun _ => by go_simp <;> rfl) (fun _ => by simp [go_sem, *]) ?_; walk_nrm)))
  (refine GU.call hp rfl rfl (by k_ne) rfl Try.func45 nm45 rfl ?_; walk_nrmf Try.f45)
  (refine GU.ctl hp rfl (fun _ => stepG_seq) ?_; refine GU.ctl hp rfl (fun _ => stepG_cond (t := true) rfl) ?_; simp only [if_true, if_false, Bool.false_eq_true, ↓reduceIte]; refine GU.ctl hp rfl (fun _ => stepG_seq) ?_; refine GU.ctl hp rfl (fun _ => stepG_region) ?_; simp only [List.size_toArray, List.length_cons, List.length_nil, Nat.reduceAdd, Nat.zero_add, List.range, List.range.loop]; (iterate 3 (refine GU.value hp _ rfl rfl (by k_ne) (fun _ => by go_simp <;> rfl) (fun _ => by simp [go_sem, *]) ?_; walk_nrm)))
  refine GU.loadAny hp rfl rfl (by k_ne) rfl rfl q45 (fun w hw => by obtain ⟨x, hx⟩ := hcm w hw; exact ⟨_, hx⟩) ?_
  walk_nrm
  refine GUf.ctl hp (fun _ => rfl) (fun _ _ _ => stepG_region_end) ?_
  refine GUf.ctl hp (fun _ => rfl) (fun _ _ _ => stepG_seq) ?_
  refine GUf.ctl hp (fun _ => rfl) (fun _ _ _ => stepG_region) ?_
  simp only [List.size_toArray, List.length_cons, List.length_nil, Nat.reduceAdd, Nat.zero_add, List.range, List.range.loop]
  refine GUf.move hp rfl (fun _ => rfl) (by k_ne) rfl (fun _ => rfl) ?_
  walk_nrm
  refine GUf.conv hp rfl (fun _ => rfl) (by k_ne) rfl (fun _ => rfl) u93 u61 z36 (fun w hw => by obtain ⟨x, hx⟩ := hcm w hw; exact ⟨_, hx⟩) ?_
  walk_nrm
  -- STOP ur
  refine GUf.stop hp (fun v => atStop K rfl rfl rfl (by simp) (by simp) (fun w s hw hs hf => ⟨⟨.ud, 0, b, i, old, aw, sv, it, r, bx, m⟩, 0, s, _, _, _, by simp [Step], by simp [bare], sRelMerge (ad := ⟨c.A, o, none⟩) rfl rfl (by k_ne) rfl (by simp [Act.eval]), hs, Eff.refl _ _ _, rfl, by simp [EvW, mkE, hm], by simp, ?_⟩))
  (clear hw hs hf; refine ⟨rfl, fun j hj => ?_⟩; walk_nrm)
  (refine GU.ctl hp rfl (fun _ => stepG_region_end) ?_; refine GU.ctl hp rfl (fun _ => stepG_region) ?_; simp only [List.size_toArray, List.length_cons, List.length_nil, Nat.reduceAdd, Nat.zero_add, List.range, List.range.loop])
  -- STOP ud
  refine stopW K rfl rfl rfl (by simp) (by simp) (fun w s hw hs hf => ⟨⟨.u0, 0, b, i, old, aw, sv, it, r, bx, m⟩, 0, s, _, _, _, by simp [Step], by simp [bare], sDisable rfl rfl (by k_ne) rfl, hs, Eff.refl _ _ _, rfl, by simp [EvW, mkE], by simp, ?_⟩)
  (clear hw hs hf; refine ⟨rfl, fun j hj => ?_⟩; walk_nrm)
  (refine GU.ctl hp rfl (fun _ => stepG_region_end) ?_; refine GU.ctl hp rfl (fun _ => stepG_seq) ?_; refine GU.ctl hp rfl (fun _ => stepG_region) ?_; simp only [List.size_toArray, List.length_cons, List.length_nil, Nat.reduceAdd, Nat.zero_add, List.range, List.range.loop]; (iterate 3 (refine GU.value hp _ rfl rfl (by k_ne) (fun _ => by go_simp <;> rfl) (fun _ => by simp [go_sem, *]) ?_; walk_nrm)))
  -- STOP u0
  refine stopW K rfl rfl rfl (by simp) (by simp) (fun w s hw hs hf => ?_)
  have hl : (s.mx b).w.l = true := hf.hold rfl
  have hn : (s.mx b).w.n < 64 := by have := (hf.bnd b).1; omega
  have hcell : w.cell? ⟨c.A, o, none⟩ = some (.int .i32 (enc (s.mx b).w)) := by rw [← hm]; exact hs.cMx b
  have hfz : w.frozen? ⟨c.A, o, none⟩ = false := hs.thA o
  have hset := hs.setMx b { (s.mx b).w with l := false }
  rw [hm] at hset
  have hadd := enc_unl _ hn hl
  generalize hy : ({ (s.mx b).w with l := false } : MuW) = y at *
  have hyn : y.n < 64 := by subst hy; exact hn
  have hyl : y.l = false := by subst hy; rfl
  have hyk : y.k = (s.mx b).w.k := by subst hy; rfl
  have hys : y.s = (s.mx b).w.s := by subst hy; rfl
  have hyw : y.n = (s.mx b).w.n := by subst hy; rfl
  refine ⟨⟨if y.s then .us else if ready y then .ue else .uc, 0, b, i, if y.s || ready y then old else y, aw, sv, it, r, bx, m⟩, 0, s.put b ⟨y, (s.mx b).sem⟩, _, _, _, ?_, by simp, stepG_add_atomic rfl rfl (by k_ne) rfl Try.func52 x52_n x52_b x52_x .i32 x52_f rfl rfl hcell hfz, by rw [hadd]; exact hset, Eff.set _ _ _ _ _ (.inl rfl), (aside_setCell _ _ _).size, by simp only [EvW]; rw [hm]; exact atm_rw _, by cases y.s <;> cases ready y <;> simp, ?_⟩
  · simp only [Step]
    rw [hy]
    refine ⟨rfl, ?_⟩
    rcases hs1 : y.s with _ | _
    · rcases hr : ready y with _ | _
      · refine .inr (.inr ?_)
        simp only [ready, Bool.or_eq_false_iff, decide_eq_false_iff_not] at hr
        exact ⟨by rw [← hys]; exact hs1, by omega, by rw [← hyk]; exact hr.1.1.2, rfl⟩
      · refine .inr (.inl ?_)
        simp only [ready, Bool.or_eq_true, decide_eq_true_eq, hyl, hs1] at hr
        refine ⟨by rw [← hys]; exact hs1, ?_, rfl⟩
        rcases hr with ((h | h) | h) | h
        · cases h
        · exact .inr (by rw [← hyk]; exact h)
        · cases h
        · exact .inl (by omega)
    · exact .inl ⟨by rw [← hys]; exact hs1, rfl⟩
  simp only [hadd]
  clear hset hadd hcell hfz hl hn hyk hys hyw hy
  (clear hw hs hf; refine ⟨rfl, fun j hj => ?_⟩; walk_nrm)
  (refine GU.value hp _ rfl rfl (by k_ne) (fun _ => by go_simp <;> rfl) (fun _ => by simp [go_sem, *]) ?_; walk_nrm; refine GU.ctl hp rfl (fun _ => stepG_region_end) ?_; (iterate 2 (refine GU.ctl hp rfl (fun _ => stepG_seq) ?_)); refine GU.ctl hp rfl (fun _ => stepG_region) ?_; simp only [List.size_toArray, List.length_cons, List.length_nil, Nat.reduceAdd, Nat.zero_add, List.range, List.range.loop]; (iterate 2 (refine GU.value hp _ rfl rfl (by k_ne) (fun _ => by go_simp <;> rfl) (fun _ => by simp [go_sem, *]) ?_; walk_nrm)); refine GU.ctl hp rfl (fun _ => stepG_region_end) ?_)
  rw [d_n0 _ hyn, hyl]
  rcases h0 : (false || y.k || y.s || decide (0 < y.n)) with _ | _
  · have h1 : y.s = false := by simp at h0; exact h0.1.2
    have h2 : ready y = true := by simp at h0; simp [ready, h0.2]
    simp only [h1, h2, Bool.false_eq_true, if_false, if_true]
    (refine GU.ctl hp rfl (fun _ => stepG_cond (t := false) rfl) ?_; simp only [if_true, if_false, Bool.false_eq_true, ↓reduceIte]; refine GU.ctl hp rfl (fun _ => stepG_skip) ?_; refine GU.ctl hp rfl (fun _ => stepG_region) ?_; simp only [List.size_toArray, List.length_cons, List.length_nil, Nat.reduceAdd, Nat.zero_add, List.range, List.range.loop])
    exact (tail45 K hcF k cN hcN next old _ rfl _ rfl).2 j (by omega)
  · (refine GU.ctl hp rfl (fun _ => stepG_cond (t := true) rfl) ?_; simp only [if_true, if_false, Bool.false_eq_true, ↓reduceIte]; refine GU.ctl hp rfl (fun _ => stepG_region) ?_; simp only [List.size_toArray, List.length_cons, List.length_nil, Nat.reduceAdd, Nat.zero_add, List.range, List.range.loop]; (iterate 2 (refine GU.value hp _ rfl rfl (by k_ne) (fun _ => by go_simp <;> rfl) (fun _ => by simp [go_sem, *]) ?_; walk_nrm)))
    (refine GU.call hp rfl rfl (by k_ne) rfl Try.func53 nm53 rfl ?_; walk_nrmf Try.f53)
    refine (slowUnlock K hB hm hms k (fun old' => ⟨rfl, fun j hj => ?_⟩) y hyn hyl _ (fun e1 e2 => by rw [e1, e2]; rfl)).2 j (by omega)
    walk_nrm
    (refine GU.ctl hp rfl (fun _ => stepG_region_end) ?_; refine GU.ctl hp rfl (fun _ => stepG_region) ?_; simp only [List.size_toArray, List.length_cons, List.length_nil, Nat.reduceAdd, Nat.zero_add, List.range, List.range.loop])
    exact (tail45 K hcF k cN hcN next old' _ rfl _ rfl).2 j (by omega)
end
end Go.Proofs.Ytnlopklbbajlbaa.Sw
