/- LightOnce: seenAt, Seen, NewAlerts (printed by tools/gennj.py). -/
import Derived.Test.YtnlopklbbajlbaaSwNI
set_option linter.unusedVariables false
set_option linter.unusedSimpArgs false
set_option maxRecDepth 100000
namespace Go.Proofs.Ytnlopklbbajlbaa.Sw
open Go Go.Conc Go.ConcN Go.RowKit
open Go.ConcR (DC0 stA smA)
noncomputable def body7 : Code := Try.f7.body.getD .skip
noncomputable def body6 : Code := Try.f6.body.getD .skip
noncomputable def body4 : Code := Try.f4.body.getD .skip
noncomputable def LL7 : Code := (findLoop body7).getD .skip
noncomputable def LL7u : Code := (findLoop body7).getD .skip
noncomputable def REST7b : Code := (tailFrom 6 body7).getD .skip
theorem ba_list (x : ByteArray) : x.toList = x.data.toList := ByteArray.toList_eq x
theorem ba_eq {a b : ByteArray} (h : a = b) : (a.toList == b.toList) = true := by subst h; simp
theorem ba_ne {a b : ByteArray} (h : a ≠ b) : (a.toList == b.toList) = false := by
  rw [ba_list, ba_list, beq_eq_false_iff_ne]
  intro e
  apply h
  obtain ⟨⟨x⟩⟩ := a
  obtain ⟨⟨y⟩⟩ := b
  simp at e
  rw [e]
section
variable {Shun : Loc → Prop} {Stop : Goroutine → World → Prop} {w : World} {b₁ : Frame} {a₁ : Act} {ops₁ : Array Oper} {i₁ : Nat} {rest₁ : List Nat} {k₁ : List Item} {cs : List Frame}
set_option maxHeartbeats 16000000 in
theorem seenAt_loop {p : Option Addr} {g n cp : Nat} {x : ByteArray} {xs : List ByteArray} (hxs : xs.length = n) (hp : 0 < n → p = some ⟨g, 0, none⟩) (hc : ∀ k (h : k < n), w.cell? ⟨g, k, none⟩ = some (.string (xs[k]'(by omega)))) (hs : ∀ k, k < n → ¬ Shun (.cell ⟨g, k, none⟩)) (hn : n ≤ 1073741824)
    {m1 : Nat} (hm1 : ∀ r : Int, (0 ≤ r ↔ x ∈ xs) → Goes Try.prog true AtRel (DL Shun) Stop m1 (G (b₁.at (a₁.put ((ops₁[i₁]?).bind (·.dst)) (.int .i64 r)) (.inRegion ops₁ rest₁ :: k₁)) cs) w) :
    ∀ rem i, i + rem = n → (∀ k (h : k < i) (h2 : k < xs.length), xs[k] ≠ x) → ∃ m, m ≤ m1 + 60 * (rem + 1) ∧ ∀ (t2 t3 t4 t6 t7 t8 t9 t10 t11 t12 t13 t14 t15 t16 t17 t18 : Value), Goes Try.prog true AtRel (DL Shun) Stop m (G ((Go.Conc.base 7).at ⟨#[.slice p n cp, .string x, t2, t3, t4, .int .i64 (i : Int), t6, t7, t8, t9, t10, t11, t12, t13, t14, t15, t16, t17, t18], []⟩ [.code LL7, .inLoop LL7, .inBlock 0, .code REST7b]) (b₁.at a₁ (.inRegion ops₁ (i₁ :: rest₁) :: k₁) :: cs)) w := by
  have hD := dl_idle Shun
  intro rem
  induction rem with
  | zero =>
    intro i hi hno
    obtain rfl : i = n := by omega
    refine ⟨m1 + 60, by omega, fun t2 t3 t4 t6 t7 t8 t9 t10 t11 t12 t13 t14 t15 t16 t17 t18 => ?_⟩
    rw [show LL7 = LL7u from rfl]
    simp (config := { decide := true }) only [LL7u, REST7b, tailFrom, firstId, findLoop, body7, Try.f7, Option.getD_some, Option.bind_some, reduceIte, Option.some.injEq, Nat.reduceEqDiff, reduceCtorEq]
    ((iterate 2 (refine LG.ctl hD rfl (fun _ => stepG_seq) ?_)); refine LG.ctl hD rfl (fun _ => stepG_region) ?_; simp only [List.size_toArray, List.length_cons, List.length_nil, Nat.reduceAdd, Nat.zero_add, List.range, List.range.loop]; (iterate 4 (refine LG.value hD _ rfl rfl (by k_ne) (fun _ => by go_simp <;> rfl) (fun _ => by simp [go_sem, *]) ?_; walk_nrm)); refine LG.ctl hD rfl (fun _ => stepG_region_end) ?_; refine LG.ctl hD rfl (fun _ => stepG_cond (t := false) rfl) ?_; simp only [if_true, if_false, Bool.false_eq_true, ↓reduceIte]; refine LG.ctl hD rfl (fun _ => stepG_exit rfl) ?_; refine LG.ctl hD rfl (fun _ => stepG_seq) ?_; refine LG.ctl hD rfl (fun _ => stepG_region) ?_; simp only [List.size_toArray, List.length_cons, List.length_nil, Nat.reduceAdd, Nat.zero_add, List.range, List.range.loop]; refine LG.value hD _ rfl rfl (by k_ne) (fun _ => by go_simp <;> rfl) (fun _ => by simp [go_sem, *]) ?_; walk_nrm; refine LG.ctl hD rfl (fun _ => stepG_region_end) ?_; refine LG.ctl hD rfl (fun _ => stepG_ret') ?_)
    (refine LG.leave1 hD rfl rfl Try.func7 rfl ?_; walk_nrm)
    refine Go.ConcM.goes_le (n := m1) (by omega) (hm1 _ ⟨fun h => absurd h (by decide), fun h => ?_⟩)
    obtain ⟨k, hk, e⟩ := List.mem_iff_getElem.1 h
    exact absurd e (hno k (by omega) hk)
  | succ rem ih =>
    intro i hi hno
    have hlt : i < n := by omega
    obtain rfl := hp (by omega)
    rcases hq : decide (xs[i]'(by omega) = x) with _ | _
    · have hne : xs[i]'(by omega) ≠ x := of_decide_eq_false hq
      obtain ⟨m, hle, hm⟩ := ih (i + 1) (by omega) (fun k hk h2 => by
        by_cases e : k = i
        · subst e; exact hne
        · exact hno k (by omega) h2)
      refine ⟨m + 60, by omega, fun t2 t3 t4 t6 t7 t8 t9 t10 t11 t12 t13 t14 t15 t16 t17 t18 => ?_⟩
      rw [show LL7 = LL7u from rfl]
      simp (config := { decide := true }) only [LL7u, REST7b, tailFrom, firstId, findLoop, body7, Try.f7, Option.getD_some, Option.bind_some, reduceIte, Option.some.injEq, Nat.reduceEqDiff, reduceCtorEq]
      ((iterate 2 (refine LG.ctl hD rfl (fun _ => stepG_seq) ?_)); refine LG.ctl hD rfl (fun _ => stepG_region) ?_; simp only [List.size_toArray, List.length_cons, List.length_nil, Nat.reduceAdd, Nat.zero_add, List.range, List.range.loop]; (iterate 4 (refine LG.value hD _ rfl rfl (by k_ne) (fun _ => by go_simp <;> rfl) (fun _ => by simp [go_sem, *]) ?_; walk_nrm)); refine LG.ctl hD rfl (fun _ => stepG_region_end) ?_; refine LG.ctl hD rfl (fun _ => stepG_cond (t := true) rfl) ?_; simp only [if_true, if_false, Bool.false_eq_true, ↓reduceIte]; refine LG.ctl hD rfl (fun _ => stepG_skip) ?_; refine LG.ctl hD rfl (fun _ => stepG_seq) ?_; refine LG.ctl hD rfl (fun _ => stepG_block) ?_; refine LG.ctl hD rfl (fun _ => stepG_seq) ?_; refine LG.ctl hD rfl (fun _ => stepG_region) ?_; simp only [List.size_toArray, List.length_cons, List.length_nil, Nat.reduceAdd, Nat.zero_add, List.range, List.range.loop]; (iterate 3 (refine LG.value hD _ rfl rfl (by k_ne) (fun _ => by go_simp <;> rfl) (fun _ => by simp [go_sem, *]) ?_; walk_nrm)))
      refine LG.ld 9 (by simp) rfl rfl (by k_ne) rfl rfl (hc i hlt) (hs i hlt) ?_
      walk_nrm
      ((iterate 2 (refine LG.value hD _ rfl rfl (by k_ne) (fun _ => by go_simp <;> rfl) (fun _ => by simp [go_sem, *]) ?_; walk_nrm)); refine LG.ctl hD rfl (fun _ => stepG_region_end) ?_)
      rw [ba_ne hne]
      (refine LG.ctl hD rfl (fun _ => stepG_cond (t := false) rfl) ?_; simp only [if_true, if_false, Bool.false_eq_true, ↓reduceIte]; refine LG.ctl hD rfl (fun _ => stepG_skip) ?_; refine LG.ctl hD rfl (fun _ => stepG_inBlock) ?_; refine LG.ctl hD rfl (fun _ => stepG_region) ?_; simp only [List.size_toArray, List.length_cons, List.length_nil, Nat.reduceAdd, Nat.zero_add, List.range, List.range.loop]; (iterate 3 (refine LG.value hD _ rfl rfl (by k_ne) (fun _ => by go_simp <;> rfl) (fun _ => by simp [go_sem, *]) ?_; walk_nrm)); refine LG.ctl hD rfl (fun _ => stepG_region_end) ?_)
      refine LG.ctl hD rfl (fun _ => stepG_inLoop) ?_
      rw [show IntKind.i64.wrap ((i : Int) + 1) = ((i + 1 : Nat) : Int) from by rw [IntKind.wrap_i64]; omega]
      exact Go.ConcM.goes_le (n := m) (by omega) (hm _ _ _ _ _ _ _ _ _ _ _ _ _ _ _ _)
    · have heq : xs[i]'(by omega) = x := of_decide_eq_true hq
      refine ⟨m1 + 60, by omega, fun t2 t3 t4 t6 t7 t8 t9 t10 t11 t12 t13 t14 t15 t16 t17 t18 => ?_⟩
      rw [show LL7 = LL7u from rfl]
      simp (config := { decide := true }) only [LL7u, REST7b, tailFrom, firstId, findLoop, body7, Try.f7, Option.getD_some, Option.bind_some, reduceIte, Option.some.injEq, Nat.reduceEqDiff, reduceCtorEq]
      ((iterate 2 (refine LG.ctl hD rfl (fun _ => stepG_seq) ?_)); refine LG.ctl hD rfl (fun _ => stepG_region) ?_; simp only [List.size_toArray, List.length_cons, List.length_nil, Nat.reduceAdd, Nat.zero_add, List.range, List.range.loop]; (iterate 4 (refine LG.value hD _ rfl rfl (by k_ne) (fun _ => by go_simp <;> rfl) (fun _ => by simp [go_sem, *]) ?_; walk_nrm)); refine LG.ctl hD rfl (fun _ => stepG_region_end) ?_; refine LG.ctl hD rfl (fun _ => stepG_cond (t := true) rfl) ?_; simp only [if_true, if_false, Bool.false_eq_true, ↓reduceIte]; refine LG.ctl hD rfl (fun _ => stepG_skip) ?_; refine LG.ctl hD rfl (fun _ => stepG_seq) ?_; refine LG.ctl hD rfl (fun _ => stepG_block) ?_; refine LG.ctl hD rfl (fun _ => stepG_seq) ?_; refine LG.ctl hD rfl (fun _ => stepG_region) ?_; simp only [List.size_toArray, List.length_cons, List.length_nil, Nat.reduceAdd, Nat.zero_add, List.range, List.range.loop]; (iterate 3 (refine LG.value hD _ rfl rfl (by k_ne) (fun _ => by go_simp <;> rfl) (fun _ => by simp [go_sem, *]) ?_; walk_nrm)))
      refine LG.ld 9 (by simp) rfl rfl (by k_ne) rfl rfl (hc i hlt) (hs i hlt) ?_
      walk_nrm
      ((iterate 2 (refine LG.value hD _ rfl rfl (by k_ne) (fun _ => by go_simp <;> rfl) (fun _ => by simp [go_sem, *]) ?_; walk_nrm)); refine LG.ctl hD rfl (fun _ => stepG_region_end) ?_; refine LG.ctl hD rfl (fun _ => stepG_cond (t := true) rfl) ?_; simp only [if_true, if_false, Bool.false_eq_true, ↓reduceIte]; refine LG.ctl hD rfl (fun _ => stepG_seq) ?_; refine LG.ctl hD rfl (fun _ => stepG_region) ?_; simp only [List.size_toArray, List.length_cons, List.length_nil, Nat.reduceAdd, Nat.zero_add, List.range, List.range.loop]; (iterate 2 (refine LG.value hD _ rfl rfl (by k_ne) (fun _ => by go_simp <;> rfl) (fun _ => by simp [go_sem, *]) ?_; walk_nrm)); refine LG.ctl hD rfl (fun _ => stepG_region_end) ?_; refine LG.ctl hD rfl (fun _ => stepG_ret') ?_)
      (refine LG.leave1 hD rfl rfl Try.func7 rfl ?_; walk_nrm)
      refine Go.ConcM.goes_le (n := m1) (by omega) (hm1 _ ⟨fun _ => ?_, fun _ => by omega⟩)
      rw [← heq]
      exact List.getElem_mem _
set_option maxHeartbeats 16000000 in
/-- ████ seenAt ████ -/
theorem seenAtL {sv : Value} {base n : Nat} {x : ByteArray} {xs : List ByteArray} (hxs : xs.length = n) (hrow : w.ownsRow base 9 1 sv n (xs.map Value.string)) (hs : ∀ ad : Addr, some ad.block = sv.ownBlock → ¬ Shun (.cell ad)) (hn : n ≤ 1073741824)
    {m1 : Nat} (hm1 : ∀ r : Int, (0 ≤ r ↔ x ∈ xs) → Goes Try.prog true AtRel (DL Shun) Stop m1 (G (b₁.at (a₁.put ((ops₁[i₁]?).bind (·.dst)) (.int .i64 r)) (.inRegion ops₁ rest₁ :: k₁)) cs) w) :
    ∃ m, m ≤ m1 + 60 * (n + 1) + 40 ∧ Goes Try.prog true AtRel (DL Shun) Stop m (G ((Go.Conc.base 7).at ⟨#[sv, .string x, undef, undef, undef, undef, undef, undef, undef, undef, undef, undef, undef, undef, undef, undef, undef, undef, undef], []⟩ [.code body7]) (b₁.at a₁ (.inRegion ops₁ (i₁ :: rest₁) :: k₁) :: cs)) w := by
  have hD := dl_idle Shun
  obtain ⟨p, g, cp, rfl, hp, hc, hs'⟩ : ∃ p g cp, sv = .slice p n cp ∧ (0 < n → p = some ⟨g, 0, none⟩) ∧ (∀ k (h : k < n), w.cell? ⟨g, k, none⟩ = some (.string (xs[k]'(by omega)))) ∧ (∀ k, k < n → ¬ Shun (.cell ⟨g, k, none⟩)) := by
    rcases hrow.2 with ⟨e, h0⟩ | ⟨g, cap, cur, e, _⟩
    · exact ⟨none, 0, 0, by rw [e, h0], fun h => by omega, fun k h => by omega, fun k h => by omega⟩
    · refine ⟨_, g, cap, e, fun _ => rfl, fun k h => ?_, fun k _ => hs _ (by rw [e]; rfl)⟩
      rw [e] at hrow
      have := hrow.cellAt k (by omega)
      rw [this]
      simp [List.getElem?_eq_getElem (show k < xs.length by omega)]
  obtain ⟨m, hle, hm⟩ := seenAt_loop (cp := cp) hxs hp hc hs' hn hm1 n 0 (by omega) (fun k h => by omega)
  refine ⟨m + 40, by omega, ?_⟩
  simp only [body7, Try.f7, Option.getD_some]
  (refine LG.ctl hD rfl (fun _ => stepG_seq) ?_; refine LG.ctl hD rfl (fun _ => stepG_region) ?_; simp only [List.size_toArray, List.length_cons, List.length_nil, Nat.reduceAdd, Nat.zero_add, List.range, List.range.loop]; refine LG.value hD _ rfl rfl (by k_ne) (fun _ => by go_simp <;> rfl) (fun _ => by simp [go_sem, *]) ?_; walk_nrm; refine LG.ctl hD rfl (fun _ => stepG_region_end) ?_; (iterate 2 (refine LG.ctl hD rfl (fun _ => stepG_seq) ?_)); refine LG.ctl hD rfl (fun _ => stepG_region) ?_; simp only [List.size_toArray, List.length_cons, List.length_nil, Nat.reduceAdd, Nat.zero_add, List.range, List.range.loop]; refine LG.value hD _ rfl rfl (by k_ne) (fun _ => by go_simp <;> rfl) (fun _ => by simp [go_sem, *]) ?_; walk_nrm; refine LG.ctl hD rfl (fun _ => stepG_region_end) ?_; refine LG.ctl hD rfl (fun _ => stepG_block) ?_)
  refine LG.ctl hD rfl (fun _ => stepG_loop) ?_
  exact Go.ConcM.goes_le (n := m) (by omega) (hm _ _ _ _ _ _ _ _ _ _ _ _ _ _ _ _)
/-- An atomic load. -/
theorem LG.atm {n : Nat} {w : World} {b : Frame} {a : Act} {kk : List Item} {cs : List Frame} {ops : Array Oper} {i : Nat} {rest : List Nat} {o : Oper} {f : FuncId} {fn : Func} {ats : Array TypeId} {x : Operand} (ho : ops[i]? = some o) (hw : Region.wanted o (yielded ops a.tmps) = true) (hk : b.kind ≠ .early) (hop : o.op = .call { callee := .value (.func f), args := #[x], argTypes := ats })
    (hf : Try.prog.funcs[f]? = some fn) (hname : (fn.name == "runtime.NumGoroutine") = false) (hb : fn.body.isNone = true) (hn : Extern.findNext fn = none) (kd : IntKind)
    (he : Extern.find fn = some (Extern.Atomic.loadT (.int kd))) {ad : Addr} {v : Int} (hx : a.eval x = .pointer (some ad)) (hc : w.cell? ad = some (.int kd v)) (hs : ¬ Shun (.cell ad))
    (k : Goes Try.prog true AtRel (DL Shun) Stop n (G (b.at (a.put o.dst (.int kd v)) (.inRegion ops rest :: kk)) cs) w) : Goes Try.prog true AtRel (DL Shun) Stop (n + 1) (G (b.at a (.inRegion ops (i :: rest) :: kk)) cs) w :=
  Goes.step rfl fun w₁ r => by
    obtain ⟨d, rfl⟩ := r
    rw [stepG_load_atomic (w := w.at d) ho hw hk hop hf hname hb hn kd he hx hc]
    refine ⟨⟨Nat.le_refl _, fun e he => ?_⟩, Goes.rely atRel_trans k ⟨d, rfl⟩⟩
    simp at he
    subst he
    exact evL_loc rfl hs (block_lt hc)
set_option maxHeartbeats 16000000 in
/-- ████ Seen ████ -/
theorem seenL {A : Nat} {N : Int} (hc : w.cell? ⟨A, 6, none⟩ = some (.int .i64 N)) (hs : ¬ Shun (.cell ⟨A, 6, none⟩))
    {m : Nat} (hm : Goes Try.prog true AtRel (DL Shun) Stop m (G (b₁.at (a₁.put ((ops₁[i₁]?).bind (·.dst)) (.int .i64 N)) (.inRegion ops₁ rest₁ :: k₁)) cs) w) :
    Goes Try.prog true AtRel (DL Shun) Stop (m + 60) (G ((Go.Conc.base 6).at ⟨#[.pointer (some ⟨A, 0, none⟩), undef, undef, undef, undef, undef, undef], []⟩ [.code body6]) (b₁.at a₁ (.inRegion ops₁ (i₁ :: rest₁) :: k₁) :: cs)) w := by
  have hD := dl_idle Shun
  simp only [body6, Try.f6, Option.getD_some]
  (refine LG.ctl hD rfl (fun _ => stepG_seq) ?_; refine LG.ctl hD rfl (fun _ => stepG_region) ?_; simp only [List.size_toArray, List.length_cons, List.length_nil, Nat.reduceAdd, Nat.zero_add, List.range, List.range.loop]; refine LG.value hD _ rfl rfl (by k_ne) (fun _ => by go_simp <;> rfl) (fun _ => by simp [go_sem, *]) ?_; walk_nrm; refine LG.ctl hD rfl (fun _ => stepG_region_end) ?_; refine LG.ctl hD rfl (fun _ => stepG_seq) ?_; refine LG.ctl hD rfl (fun _ => stepG_region) ?_; simp only [List.size_toArray, List.length_cons, List.length_nil, Nat.reduceAdd, Nat.zero_add, List.range, List.range.loop]; (iterate 3 (refine LG.value hD _ rfl rfl (by k_ne) (fun _ => by go_simp <;> rfl) (fun _ => by simp [go_sem, *]) ?_; walk_nrm)))
  (refine LG.call hD rfl rfl (by k_ne) rfl Try.func13 nm13 rfl ?_; walk_nrmf Try.f13)
  (refine LG.ctl hD rfl (fun _ => stepG_seq) ?_; refine LG.ctl hD rfl (fun _ => stepG_region) ?_; simp only [List.size_toArray, List.length_cons, List.length_nil, Nat.reduceAdd, Nat.zero_add, List.range, List.range.loop]; refine LG.value hD _ rfl rfl (by k_ne) (fun _ => by go_simp <;> rfl) (fun _ => by simp [go_sem, *]) ?_; walk_nrm; refine LG.ctl hD rfl (fun _ => stepG_region_end) ?_; refine LG.ctl hD rfl (fun _ => stepG_seq) ?_; refine LG.ctl hD rfl (fun _ => stepG_region) ?_; simp only [List.size_toArray, List.length_cons, List.length_nil, Nat.reduceAdd, Nat.zero_add, List.range, List.range.loop]; (iterate 3 (refine LG.value hD _ rfl rfl (by k_ne) (fun _ => by go_simp <;> rfl) (fun _ => by simp [go_sem, *]) ?_; walk_nrm)))
  refine LG.atm rfl rfl (by k_ne) rfl Try.func37 x37_n x37_b x37_x .i64 x37_f rfl hc hs ?_
  walk_nrm
  (refine LG.value hD _ rfl rfl (by k_ne) (fun _ => by go_simp <;> rfl) (fun _ => by simp [go_sem, *]) ?_; walk_nrm; refine LG.ctl hD rfl (fun _ => stepG_region_end) ?_; refine LG.ctl hD rfl (fun _ => stepG_ret') ?_)
  (refine LG.leave1 hD rfl rfl Try.func13 rfl ?_; walk_nrm)
  (refine LG.value hD _ rfl rfl (by k_ne) (fun _ => by go_simp <;> rfl) (fun _ => by simp [go_sem, *]) ?_; walk_nrm; refine LG.ctl hD rfl (fun _ => stepG_region_end) ?_; refine LG.ctl hD rfl (fun _ => stepG_ret') ?_)
  (refine LG.leave1 hD rfl rfl Try.func6 rfl ?_; walk_nrm)
  exact Go.ConcM.goes_le (n := m) (by omega) hm
/-- A fresh Alerts. -/
def cells0 : Array Value := #[.int .u32 0, .int .i32 0, .int .u32 0, .int .i32 0, .int .u32 0, .map none, .int .i64 0]
end
end Go.Proofs.Ytnlopklbbajlbaa.Sw

set_option linter.unusedVariables false
set_option linter.unusedSimpArgs false
namespace Go.Proofs.Ytnlopklbbajlbaa.Sw
open Go Go.Conc Go.ConcN
open Go.ConcM (OsLater)

theorem conF_map (nm : Nat → ByteArray) : ∀ i, conF nm i = (ixF nm i).map nm
  | 0 => rfl
  | i + 1 => by
    have ih := conF_map nm i
    simp only [conF, ixF]
    split
    · exact ih
    · simp [ih]
theorem ixF_lt (nm : Nat → ByteArray) : ∀ i x, x ∈ ixF nm i → x < i
  | 0, x, h => by simp [ixF] at h
  | i + 1, x, h => by
    have ih := ixF_lt nm i x
    simp only [ixF] at h
    split at h
    · have := ih h; omega
    · rcases List.mem_append.1 h with h | h
      · have := ih h; omega
      · simp at h; omega
theorem conF_nodup (nm : Nat → ByteArray) : ∀ i, (conF nm i).Nodup
  | 0 => List.nodup_nil
  | i + 1 => by
    have ih := conF_nodup nm i
    simp only [conF]
    rcases hm : memB (nm i) (conF nm i) with _ | _
    · have := memB_false.1 hm
      simp only [Bool.false_eq_true, if_false]
      rw [List.nodup_append]
      refine ⟨ih, by simp, fun a ha b hb => ?_⟩
      simp at hb
      subst hb
      exact fun e => this (e ▸ ha)
    · simpa using ih
theorem conF_mem (nm : Nat → ByteArray) : ∀ i x, x ∈ conF nm i ↔ ∃ k, k < i ∧ nm k = x
  | 0, x => by simp [conF]
  | i + 1, x => by
    have ih := conF_mem nm i x
    simp only [conF]
    rcases hm : memB (nm i) (conF nm i) with _ | _
    · simp only [Bool.false_eq_true, if_false, List.mem_append, List.mem_singleton]
      rw [ih]
      constructor
      · rintro (⟨k, h1, h2⟩ | h)
        · exact ⟨k, by omega, h2⟩
        · exact ⟨i, by omega, h.symm⟩
      · rintro ⟨k, h1, h2⟩
        by_cases e : k = i
        · subst e; exact .inr h2.symm
        · exact .inl ⟨k, by omega, h2⟩
    · simp only [if_true]
      rw [ih]
      constructor
      · rintro ⟨k, h1, h2⟩; exact ⟨k, by omega, h2⟩
      · rintro ⟨k, h1, h2⟩
        by_cases e : k = i
        · subst e
          have := memB_true.1 hm
          rw [h2, ih] at this
          exact this
        · exact ⟨k, by omega, h2⟩
/-- Number k of the first places. -/
noncomputable def ixK (nm : Nat → ByteArray) (N k : Nat) : Nat := (ixF nm N).getD k 0
noncomputable def nmK (nm : Nat → ByteArray) (N k : Nat) : ByteArray := nm (ixK nm N k)
theorem conF_len (nm : Nat → ByteArray) (N : Nat) : (conF nm N).length = (ixF nm N).length := by rw [conF_map]; simp
theorem ixK_lt {nm : Nat → ByteArray} {N k : Nat} (h : k < (ixF nm N).length) : ixK nm N k < N := by
  refine ixF_lt nm N _ ?_
  unfold ixK
  rw [List.getD_eq_getElem?_getD, List.getElem?_eq_getElem h]
  exact List.getElem_mem h
theorem nmK_get {nm : Nat → ByteArray} {N k : Nat} (h : k < (ixF nm N).length) : (conF nm N)[k]? = some (nmK nm N k) := by
  rw [conF_map, List.getElem?_map, List.getElem?_eq_getElem h]
  unfold nmK ixK
  rw [List.getD_eq_getElem?_getD, List.getElem?_eq_getElem h]
  rfl
theorem nmK_inj {nm : Nat → ByteArray} {N a b : Nat} (ha : a < (ixF nm N).length) (hb : b < (ixF nm N).length) (h : nmK nm N a = nmK nm N b) : a = b := by
  have h1 := nmK_get ha
  have h2 := nmK_get hb
  rw [← h] at h2
  exact (List.getElem?_inj (by rw [conF_len]; exact ha) (conF_nodup nm N)).1 (h1.trans h2.symm)
theorem nmK_mem {nm : Nat → ByteArray} {N : Nat} (x : ByteArray) : (∃ k, k < (ixF nm N).length ∧ nmK nm N k = x) ↔ x ∈ conF nm N := by
  constructor
  · rintro ⟨k, h1, rfl⟩
    exact List.mem_of_getElem? (nmK_get h1)
  · intro h
    obtain ⟨k, hk, e⟩ := List.mem_iff_getElem.1 h
    refine ⟨k, by rw [← conF_len]; exact hk, ?_⟩
    have := nmK_get (nm := nm) (N := N) (k := k) (by rw [← conF_len]; exact hk)
    rw [List.getElem?_eq_getElem hk] at this
    exact ((Option.some.inj this).symm.trans e)
/-- What is new. -/
noncomputable def newF (S l : List ByteArray) : List ByteArray := l.filter fun x => !memB x S
theorem outF_take (S : List ByteArray) (l : List ByteArray) (f : Nat → ByteArray) (fr : Nat → Bool) (hf : ∀ k, k < l.length → l[k]? = some (f k)) (hfr : ∀ k, k < l.length → fr k = !memB (f k) S) :
    ∀ k, k ≤ l.length → outF fr f k = newF S (l.take k)
  | 0, _ => by simp [outF, newF]
  | k + 1, h => by
    have ih := outF_take S l f fr hf hfr k (by omega)
    have h1 := hf k (by omega)
    have h2 := hfr k (by omega)
    have e : newF S (l.take (k + 1)) = newF S (l.take k) ++ (if fr k then [f k] else []) := by
      unfold newF
      rw [List.take_add_one, h1, List.filter_append]
      congr 1
      simp only [Option.toList_some, List.filter_cons, List.filter_nil, h2]
    rw [e, ← ih]
    simp only [outF]
    split <;> simp

/-- THE ALERTS, nobody being in. -/
def AlAt (w : World) (A : Nat) (S : List ByteArray) (M : Option Nat) : Prop :=
  w.heap[A]? = some (.cells #[.int .u32 (if M.isSome then 1 else 0), .int .i32 0, .int .u32 0, .int .i32 0, .int .u32 0, .map M, .int .i64 (S.length : Int)] 46) ∧ S.Nodup ∧ (M = none → S = []) ∧
    ∀ mp, M = some mp → ∃ es ck, w.heap[mp]? = some (.map es ck) ∧ es.toList.map (·.key) = S.map Value.string
/-- The shunned places are old groups' cells. -/
def ShunOk (H0 : Nat) (Shun : Loc → Prop) (w : World) : Prop := ∀ l, Shun l → ∃ (ad : Addr) (cs : Array Value) (fz : Nat × Nat), l = .cell ad ∧ H0 ≤ ad.block ∧ w.heap[ad.block]? = some (.cells cs 55 fz)
/-- WHAT SEE DOES TO THE WORLD. -/
structure SeeW (A : Nat) (M : Option Nat) (w w' : World) : Prop where
  os : OsLater w.os w'.os
  tape : w'.tape = w.tape
  output : w'.output = w.output
  size : w.heap.size ≤ w'.heap.size
  block : ∀ b, b < w.heap.size → b ≠ A → M ≠ some b → w'.heap[b]? = w.heap[b]?
theorem ShunOk.obj {H0 : Nat} {Shun : Loc → Prop} {w : World} (h : ShunOk H0 Shun w) (r : Nat) : ¬ Shun (.obj r) := fun x => by
  obtain ⟨ad, cs, fz, e, _⟩ := h _ x
  cases e
theorem ShunOk.cell {H0 : Nat} {Shun : Loc → Prop} {w : World} (h : ShunOk H0 Shun w) {ad : Addr} (hb : ∀ cs fz, w.heap[ad.block]? ≠ some (.cells cs 55 fz)) : ¬ Shun (.cell ad) := fun x => by
  obtain ⟨ad', cs, fz, e, _, h2⟩ := h _ x
  cases e
  exact hb _ _ h2
theorem ShunOk.far {H0 : Nat} {Shun : Loc → Prop} {w : World} (h : ShunOk H0 Shun w) {ad : Addr} (hb : w.heap.size ≤ ad.block) : ¬ Shun (.cell ad) := h.cell fun cs fz e => by
  have := (Array.getElem?_eq_some_iff.1 e).1
  omega
theorem ShunOk.below {H0 : Nat} {Shun : Loc → Prop} {w : World} (h : ShunOk H0 Shun w) {ad : Addr} (hb : ad.block < H0) : ¬ Shun (.cell ad) := fun x => by
  obtain ⟨ad', cs, fz, e, h1, _⟩ := h _ x
  cases e
  omega
end Go.Proofs.Ytnlopklbbajlbaa.Sw
