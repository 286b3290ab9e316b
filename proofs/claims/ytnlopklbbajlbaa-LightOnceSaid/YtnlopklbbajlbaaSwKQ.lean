/- LightOnce: the walk through lockSlow: from its head (printed in part by tools/genlock.py). -/
import Derived.Test.YtnlopklbbajlbaaSwKP
set_option linter.unusedVariables false
set_option linter.unusedSimpArgs false
set_option maxRecDepth 100000
namespace Go.Proofs.Ytnlopklbbajlbaa.Sw
open Go Go.Conc Go.ConcN Go.RowKit
open Go.ConcR (DC0 stA smA)
section
variable {c : TC} {q : AP} {bx : Nat} {p : World → Prop} {o : Nat} {b : Bool} {i m : Nat} {r : Bool} {cs : List Frame} {b₁ : Frame} {a₁ : Act} {ops₁ : Array Oper} {i₁ : Nat} {rest₁ : List Nat} {k₁ : List Item}
set_option maxHeartbeats 16000000 in
/-- ████ THE LOOP's HEAD. ████ -/
theorem headL (K : KN c bx p) (hB : q.B < 60) (hm : mxA c b = ⟨c.A, o, none⟩) (hms : msA c b = ⟨c.A, o + 1, none⟩) {k₀ cN : Nat} (hcN : cN ≤ 16)
    (next : ∀ old aw sv it, WU c q bx p k₀ (aftL b cN i old aw sv it r bx m) (G (b₁.at (a₁.put ((ops₁[i₁]?).bind (·.dst)) (.tuple #[])) (.inRegion ops₁ rest₁ :: k₁)) cs)) : ∀ k, k ≤ k₀ → ∀ (x : MuW) (aw sv : Bool) (it : Nat) (ws : Int), x.n < 60 → (aw = true → x.k = true) → it ≤ 4 → ∀ (j1 j7 j8 j9 j10 j11 j12 j13 j14 j15 j16 j17 j18 j19 j20 j21 j22 j23 j24 j25 j26 j27 j28 j29 j30 j31 j32 j33 j34 j35 j36 j37 j38 j39 j40 j41 j42 j43 j44 j45 j46 j47 j48 j49 j50 j51 j52 j53 j54 j55 j56 j57 j58 j59 j60 j61 j62 j63 j64 j65 j66 j67 j68 j69 j70 j71 j72 j73 j74 j75 j76 j77 j78 j79 j80 j81 j82 j83 j84 j85 j86 j87 j88 j89 j90 j91 j92 j93 j94 j95 j96 j97 j98 j99 j100 j101 j102 j103 j104 j105 j106 j107 j108 j109 j110 j111 j112 j113 j114 j115 j116 j117 j118 j119 j120 j121 j122 j123 j124 j125 j126 j127 j128 j129 j130 j131 j132 j133 j134 j135 j136 j137 j138 : Value), WU c q bx p k ⟨if x.l && !x.s then .msq else .mc2, 0, b, i, x, aw, sv, it, r, bx, m⟩ (G ((Go.Conc.base 51).at ⟨#[.pointer (some ⟨c.A, o, none⟩), j1, .int .i64 ws, .bool sv, .bool aw, .int .i64 (it : Int), .int .i32 (enc x), j7, j8, j9, j10, j11, j12, j13, j14, j15, j16, j17, j18, j19, j20, j21, j22, j23, j24, j25, j26, j27, j28, j29, j30, j31, j32, j33, j34, j35, j36, j37, j38, j39, j40, j41, j42, j43, j44, j45, j46, j47, j48, j49, j50, j51, j52, j53, j54, j55, j56, j57, j58, j59, j60, j61, j62, j63, j64, j65, j66, j67, j68, j69, j70, j71, j72, j73, j74, j75, j76, j77, j78, j79, j80, j81, j82, j83, j84, j85, j86, j87, j88, j89, j90, j91, j92, j93, j94, j95, j96, j97, j98, j99, j100, j101, j102, j103, j104, j105, j106, j107, j108, j109, j110, j111, j112, j113, j114, j115, j116, j117, j118, j119, j120, j121, j122, j123, j124, j125, j126, j127, j128, j129, j130, j131, j132, j133, j134, j135, j136, j137, j138], []⟩ [.code LL51, .inLoop LL51, .inBlock 0, .code REST51]) (b₁.at a₁ (.inRegion ops₁ (i₁ :: rest₁) :: k₁) :: cs)) := by
  have hp := K.st
  intro k
  induction k using Nat.strongRecOn with
  | _ k ih =>
  intro hk x aw sv it ws hx haw hit j1 j7 j8 j9 j10 j11 j12 j13 j14 j15 j16 j17 j18 j19 j20 j21 j22 j23 j24 j25 j26 j27 j28 j29 j30 j31 j32 j33 j34 j35 j36 j37 j38 j39 j40 j41 j42 j43 j44 j45 j46 j47 j48 j49 j50 j51 j52 j53 j54 j55 j56 j57 j58 j59 j60 j61 j62 j63 j64 j65 j66 j67 j68 j69 j70 j71 j72 j73 j74 j75 j76 j77 j78 j79 j80 j81 j82 j83 j84 j85 j86 j87 j88 j89 j90 j91 j92 j93 j94 j95 j96 j97 j98 j99 j100 j101 j102 j103 j104 j105 j106 j107 j108 j109 j110 j111 j112 j113 j114 j115 j116 j117 j118 j119 j120 j121 j122 j123 j124 j125 j126 j127 j128 j129 j130 j131 j132 j133 j134 j135 j136 j137 j138
  have ih' : ∀ k', k' < k → ∀ (x : MuW) (aw sv : Bool) (it : Nat) (ws : Int), x.n < 60 → (aw = true → x.k = true) → it ≤ 4 → ∀ (j1 j7 j8 j9 j10 j11 j12 j13 j14 j15 j16 j17 j18 j19 j20 j21 j22 j23 j24 j25 j26 j27 j28 j29 j30 j31 j32 j33 j34 j35 j36 j37 j38 j39 j40 j41 j42 j43 j44 j45 j46 j47 j48 j49 j50 j51 j52 j53 j54 j55 j56 j57 j58 j59 j60 j61 j62 j63 j64 j65 j66 j67 j68 j69 j70 j71 j72 j73 j74 j75 j76 j77 j78 j79 j80 j81 j82 j83 j84 j85 j86 j87 j88 j89 j90 j91 j92 j93 j94 j95 j96 j97 j98 j99 j100 j101 j102 j103 j104 j105 j106 j107 j108 j109 j110 j111 j112 j113 j114 j115 j116 j117 j118 j119 j120 j121 j122 j123 j124 j125 j126 j127 j128 j129 j130 j131 j132 j133 j134 j135 j136 j137 j138 : Value), WU c q bx p k' ⟨if x.l && !x.s then .msq else .mc2, 0, b, i, x, aw, sv, it, r, bx, m⟩ (G ((Go.Conc.base 51).at ⟨#[.pointer (some ⟨c.A, o, none⟩), j1, .int .i64 ws, .bool sv, .bool aw, .int .i64 (it : Int), .int .i32 (enc x), j7, j8, j9, j10, j11, j12, j13, j14, j15, j16, j17, j18, j19, j20, j21, j22, j23, j24, j25, j26, j27, j28, j29, j30, j31, j32, j33, j34, j35, j36, j37, j38, j39, j40, j41, j42, j43, j44, j45, j46, j47, j48, j49, j50, j51, j52, j53, j54, j55, j56, j57, j58, j59, j60, j61, j62, j63, j64, j65, j66, j67, j68, j69, j70, j71, j72, j73, j74, j75, j76, j77, j78, j79, j80, j81, j82, j83, j84, j85, j86, j87, j88, j89, j90, j91, j92, j93, j94, j95, j96, j97, j98, j99, j100, j101, j102, j103, j104, j105, j106, j107, j108, j109, j110, j111, j112, j113, j114, j115, j116, j117, j118, j119, j120, j121, j122, j123, j124, j125, j126, j127, j128, j129, j130, j131, j132, j133, j134, j135, j136, j137, j138], []⟩ [.code LL51, .inLoop LL51, .inBlock 0, .code REST51]) (b₁.at a₁ (.inRegion ops₁ (i₁ :: rest₁) :: k₁) :: cs)) := fun k' h => ih k' h (by omega)
  obtain ⟨xl, xk, xs, xn⟩ := x
  rcases h1 : (xl && !xs) with _ | _
  · refine ⟨rfl, fun j hj => ?_⟩
    simp only [h1, Bool.false_eq_true, if_false]
    rw [show LL51 = LL51u from rfl]
    simp (config := { decide := true }) only [LL51u, body51, findLoop, Try.f51, Option.getD_some]
    (refine GU.ctl hp rfl (fun _ => stepG_block) ?_; (iterate 2 (refine GU.ctl hp rfl (fun _ => stepG_seq) ?_)); refine GU.ctl hp rfl (fun _ => stepG_region) ?_; simp only [List.size_toArray, List.length_cons, List.length_nil, Nat.reduceAdd, Nat.zero_add, List.range, List.range.loop]; (iterate 4 (refine GU.value hp _ rfl rfl (by k_ne) (fun _ => by go_simp <;> rfl) (fun _ => by simp [go_sem, *]) ?_; walk_nrm)))
    rw [d_51 _ (by first | omega | (simp only at hx ⊢; omega))]
    simp only [h1]
    ((iterate 2 (refine GU.unwanted hp rfl rfl ?_; walk_nrm)); refine GU.value hp _ rfl rfl (by k_ne) (fun _ => by go_simp <;> rfl) (fun _ => by simp [go_sem, *]) ?_; walk_nrm; refine GU.ctl hp rfl (fun _ => stepG_region_end) ?_; refine GU.ctl hp rfl (fun _ => stepG_cond (t := false) rfl) ?_; simp only [if_true, if_false, Bool.false_eq_true, ↓reduceIte]; refine GU.ctl hp rfl (fun _ => stepG_skip) ?_)
    exact (newL K hB hm hms hcN next k hk ih' ⟨xl, xk, xs, xn⟩ aw sv it ws hx haw _ _ _ _ _ _ _ _ _ _ _ _ _ _ _ _ _ _ _ _ _ _ _ _ _ _ _ _ _ _ _ _ _ _ _ _ _ _ _ _ _ _ _ _ _ _ _ _ _ _ _ _ _ _ _ _ _ _ _ _ _ _ _ _ _ _ _ _ _ _ _ _ _ _ _ _ _ _ _ _ _ _ _ _ _ _ _ _ _ _ _ _ _ _ _ _ _ _ _ _ _ _ _ _ _ _ _ _ _ _ _ _ _ _ _ _ _ _ _ _ _ _ _ _ _ _ _ _ _ _ _ _ _ ).2 j hj
  · have hl : xl = true := by revert h1; cases xl <;> simp
    have hs : xs = false := by revert h1; cases xs <;> simp
    subst hl hs
    exact msqL K hB hm hms hcN next k hk ih' xn xk aw sv it ws hx haw hit _ _ _ _ _ _ _ _ _ _ _ _ _ _ _ _ _ _ _ _ _ _ _ _ _ _ _ _ _ _ _ _ _ _ _ _ _ _ _ _ _ _ _ _ _ _ _ _ _ _ _ _ _ _ _ _ _ _ _ _ _ _ _ _ _ _ _ _ _ _ _ _ _ _ _ _ _ _ _ _ _ _ _ _ _ _ _ _ _ _ _ _ _ _ _ _ _ _ _ _ _ _ _ _ _ _ _ _ _ _ _ _ _ _ _ _ _ _ _ _ _ _ _ _ _ _ _ _ _ _ _ _ _ 
end
end Go.Proofs.Ytnlopklbbajlbaa.Sw

set_option linter.unusedVariables false
set_option linter.unusedSimpArgs false
set_option maxRecDepth 100000
namespace Go.Proofs.Ytnlopklbbajlbaa.Sw
open Go Go.Conc Go.ConcN Go.RowKit
open Go.ConcR (DC0 stA smA)
noncomputable def body29 : Code := Try.f29.body.getD .skip

section
variable {c : TC} {q : AP} {bx : Nat} {p : World → Prop} {o : Nat} {b : Bool} {i m : Nat} {r : Bool} {cs : List Frame} {b₁ : Frame} {a₁ : Act} {ops₁ : Array Oper} {i₁ : Nat} {rest₁ : List Nat} {k₁ : List Item}
set_option maxHeartbeats 16000000 in
theorem lockSlowL (K : KN c bx p) (hB : q.B < 60) (hm : mxA c b = ⟨c.A, o, none⟩) (hms : msA c b = ⟨c.A, o + 1, none⟩) {k₀ cN : Nat} (hcN : cN ≤ 16)
    (next : ∀ old aw sv it, WU c q bx p k₀ (aftL b cN i old aw sv it r bx m) (G (b₁.at (a₁.put ((ops₁[i₁]?).bind (·.dst)) (.tuple #[])) (.inRegion ops₁ rest₁ :: k₁)) cs)) (old : MuW) (aw sv : Bool) (it : Nat) :
    WU c q bx p k₀ ⟨.mr0, 0, b, i, old, aw, sv, it, r, bx, m⟩ (G ((Go.Conc.base 51).at ⟨#[.pointer (some ⟨c.A, o, none⟩), undef, undef, undef, undef, undef, undef, undef, undef, undef, undef, undef, undef, undef, undef, undef, undef, undef, undef, undef, undef, undef, undef, undef, undef, undef, undef, undef, undef, undef, undef, undef, undef, undef, undef, undef, undef, undef, undef, undef, undef, undef, undef, undef, undef, undef, undef, undef, undef, undef, undef, undef, undef, undef, undef, undef, undef, undef, undef, undef, undef, undef, undef, undef, undef, undef, undef, undef, undef, undef, undef, undef, undef, undef, undef, undef, undef, undef, undef, undef, undef, undef, undef, undef, undef, undef, undef, undef, undef, undef, undef, undef, undef, undef, undef, undef, undef, undef, undef, undef, undef, undef, undef, undef, undef, undef, undef, undef, undef, undef, undef, undef, undef, undef, undef, undef, undef, undef, undef, undef, undef, undef, undef, undef, undef, undef, undef, undef, undef, undef, undef, undef, undef, undef, undef, undef, undef, undef, undef], []⟩ [.code body51]) (b₁.at a₁ (.inRegion ops₁ (i₁ :: rest₁) :: k₁) :: cs)) := by
  have hp := K.st
  refine ⟨rfl, fun j hj => ?_⟩
  have hh := headL K hB hm hms hcN next
  simp only [body51, Try.f51, Option.getD_some]
  (refine GU.ctl hp rfl (fun _ => stepG_seq) ?_; refine GU.ctl hp rfl (fun _ => stepG_region) ?_; simp only [List.size_toArray, List.length_cons, List.length_nil, Nat.reduceAdd, Nat.zero_add, List.range, List.range.loop]; refine GU.value hp _ rfl rfl (by k_ne) (fun _ => by go_simp <;> rfl) (fun _ => by simp [go_sem, *]) ?_; walk_nrm; refine GU.ctl hp rfl (fun _ => stepG_region_end) ?_; refine GU.ctl hp rfl (fun _ => stepG_seq) ?_; refine GU.ctl hp rfl (fun _ => stepG_region) ?_; simp only [List.size_toArray, List.length_cons, List.length_nil, Nat.reduceAdd, Nat.zero_add, List.range, List.range.loop]; refine GU.value hp _ rfl rfl (by k_ne) (fun _ => by go_simp <;> rfl) (fun _ => by simp [go_sem, *]) ?_; walk_nrm; refine GU.ctl hp rfl (fun _ => stepG_region_end) ?_; refine GU.ctl hp rfl (fun _ => stepG_seq) ?_; refine GU.ctl hp rfl (fun _ => stepG_region) ?_; simp only [List.size_toArray, List.length_cons, List.length_nil, Nat.reduceAdd, Nat.zero_add, List.range, List.range.loop]; refine GU.value hp _ rfl rfl (by k_ne) (fun _ => by go_simp <;> rfl) (fun _ => by simp [go_sem, *]) ?_; walk_nrm; refine GU.ctl hp rfl (fun _ => stepG_region_end) ?_; refine GU.ctl hp rfl (fun _ => stepG_seq) ?_; refine GU.ctl hp rfl (fun _ => stepG_region) ?_; simp only [List.size_toArray, List.length_cons, List.length_nil, Nat.reduceAdd, Nat.zero_add, List.range, List.range.loop]; refine GU.value hp _ rfl rfl (by k_ne) (fun _ => by go_simp <;> rfl) (fun _ => by simp [go_sem, *]) ?_; walk_nrm; refine GU.ctl hp rfl (fun _ => stepG_region_end) ?_; refine GU.ctl hp rfl (fun _ => stepG_seq) ?_; refine GU.ctl hp rfl (fun _ => stepG_region) ?_; simp only [List.size_toArray, List.length_cons, List.length_nil, Nat.reduceAdd, Nat.zero_add, List.range, List.range.loop]; (iterate 3 (refine GU.value hp _ rfl rfl (by k_ne) (fun _ => by go_simp <;> rfl) (fun _ => by simp [go_sem, *]) ?_; walk_nrm)))
  -- STOP mr0
  refine stopW K rfl rfl rfl (by simp) (by simp) (fun w s hw hs hf => ?_)
  have hcell : w.cell? ⟨c.A, o, none⟩ = some (.int .i32 (enc (s.mx b).w)) := by rw [← hm]; exact hs.cMx b
  have hn : (s.mx b).w.n < 60 := by have := (hf.bnd b).1; omega
  refine ⟨⟨if (s.mx b).w.l && !(s.mx b).w.s then .msq else .mc2, 0, b, i, (s.mx b).w, false, false, 0, r, bx, m⟩, 0, s, _, _, _, ?_, Nat.zero_le _, stepG_loadQ rfl rfl (by k_ne) rfl rfl hcell q51, hs, Eff.refl _ _ _, rfl, by simp [EvW], by split <;> simp, ?_⟩
  · simp only [Step, head]
    exact ⟨by split <;> rfl, trivial⟩
  clear hcell hw hs hf
  generalize (s.mx b).w = y at *
  refine ⟨rfl, fun j3 hj3 => ?_⟩
  walk_nrm
  (refine GU.value hp _ rfl rfl (by k_ne) (fun _ => by go_simp <;> rfl) (fun _ => by simp [go_sem, *]) ?_; walk_nrm; refine GU.ctl hp rfl (fun _ => stepG_region_end) ?_; refine GU.ctl hp rfl (fun _ => stepG_seq) ?_; refine GU.ctl hp rfl (fun _ => stepG_block) ?_)
  refine GU.ctl hp rfl (fun _ => stepG_loop) ?_
  exact (hh j (by omega) y false false 0 0 hn (fun h => by cases h) (by omega) _ _ _ _ _ _ _ _ _ _ _ _ _ _ _ _ _ _ _ _ _ _ _ _ _ _ _ _ _ _ _ _ _ _ _ _ _ _ _ _ _ _ _ _ _ _ _ _ _ _ _ _ _ _ _ _ _ _ _ _ _ _ _ _ _ _ _ _ _ _ _ _ _ _ _ _ _ _ _ _ _ _ _ _ _ _ _ _ _ _ _ _ _ _ _ _ _ _ _ _ _ _ _ _ _ _ _ _ _ _ _ _ _ _ _ _ _ _ _ _ _ _ _ _ _ _ _ _ _ _ _ _ _ ).2 j3 hj3

set_option maxHeartbeats 16000000 in
/-- ████ Lock. ████ -/
theorem lockL (K : KN c bx p) (hB : q.B < 60) (hm : mxA c b = ⟨c.A, o, none⟩) (hms : msA c b = ⟨c.A, o + 1, none⟩) {k₀ cN : Nat} (hcN : cN ≤ 16)
    (next : ∀ old aw sv it, WU c q bx p k₀ (aftL b cN i old aw sv it r bx m) (G (b₁.at (a₁.put ((ops₁[i₁]?).bind (·.dst)) (.tuple #[])) (.inRegion ops₁ rest₁ :: k₁)) cs)) (old : MuW) (aw sv : Bool) (it : Nat) :
    WU c q bx p k₀ ⟨.md, 0, b, i, old, aw, sv, it, r, bx, m⟩ (G ((Go.Conc.base 29).at ⟨#[.pointer (some ⟨c.A, o, none⟩), undef, undef, undef, undef, undef], []⟩ [.code body29]) (b₁.at a₁ (.inRegion ops₁ (i₁ :: rest₁) :: k₁) :: cs)) := by
  have hp := K.st
  have hcm : ∀ w, p w → ∃ x : MuW, w.cell? ⟨c.A, o, none⟩ = some (.int .i32 (enc x)) := fun w hw => by
    obtain ⟨s, hs⟩ := K.live w hw
    exact ⟨_, by rw [← hm]; exact hs.cMx b⟩
  refine ⟨rfl, fun j hj => ?_⟩
  simp only [body29, Try.f29, Option.getD_some]
  (refine GU.ctl hp rfl (fun _ => stepG_region) ?_; simp only [List.size_toArray, List.length_cons, List.length_nil, Nat.reduceAdd, Nat.zero_add, List.range, List.range.loop]; (iterate 3 (refine GU.value hp _ rfl rfl (by k_ne) (fun _ => by go_simp <;> rfl) (fun _ => by simp [go_sem, *]) ?_; walk_nrm)))
  (refine GU.call hp rfl rfl (by k_ne) rfl Try.func44 nm44 rfl ?_; walk_nrmf Try.f44)
  (refine GU.ctl hp rfl (fun _ => stepG_seq) ?_; refine GU.ctl hp rfl (fun _ => stepG_region) ?_; simp only [List.size_toArray, List.length_cons, List.length_nil, Nat.reduceAdd, Nat.zero_add, List.range, List.range.loop])
  -- STOP md
  refine stopW K rfl rfl rfl (by simp) (by simp) (fun w s hw hs hf => ⟨⟨.m0, 0, b, i, old, aw, sv, it, r, bx, m⟩, 0, s, _, _, _, by simp [Step], Nat.zero_le _, sDisable rfl rfl (by k_ne) rfl, hs, Eff.refl _ _ _, rfl, by simp [EvW, mkE], by simp, ?_⟩)
  clear hw hs hf
  refine ⟨rfl, fun j2 hj2 => ?_⟩
  walk_nrm
  (refine GU.ctl hp rfl (fun _ => stepG_region_end) ?_; (iterate 2 (refine GU.ctl hp rfl (fun _ => stepG_seq) ?_)); refine GU.ctl hp rfl (fun _ => stepG_region) ?_; simp only [List.size_toArray, List.length_cons, List.length_nil, Nat.reduceAdd, Nat.zero_add, List.range, List.range.loop]; (iterate 3 (refine GU.value hp _ rfl rfl (by k_ne) (fun _ => by go_simp <;> rfl) (fun _ => by simp [go_sem, *]) ?_; walk_nrm)))
  -- STOP m0
  refine stopW K rfl rfl rfl (by simp) (by simp) (fun w s hw hs hf => ?_)
  have hcell : w.cell? ⟨c.A, o, none⟩ = some (.int .i32 (enc (s.mx b).w)) := by rw [← hm]; exact hs.cMx b
  by_cases he : (s.mx b).w = MuW.nil
  · have hset := hs.setMx b ⟨true, false, false, 0⟩
    rw [hm] at hset
    rw [he] at hcell
    refine ⟨⟨.me, 0, b, i, old, aw, sv, it, r, bx, m⟩, 0, s.put b ⟨⟨true, false, false, 0⟩, (s.mx b).sem⟩, _, _, _, .inl ⟨he, rfl, rfl⟩, Nat.zero_le _, stepG_cas_hit rfl rfl (by k_ne) rfl Try.func50 x50_n x50_b x50_x .i32 x50_f rfl rfl rfl hcell (hs.thA o), hset, Eff.set _ _ _ _ _ (.inl rfl), (aside_setCell _ _ _).size, by simp only [EvW]; rw [hm]; exact atm_rw _, by simp, ?_⟩
    clear hset hcell he hw hs hf
    refine ⟨rfl, fun j3 hj3 => ?_⟩
    walk_nrm
    (refine GU.ctl hp rfl (fun _ => stepG_region_end) ?_; refine GU.ctl hp rfl (fun _ => stepG_cond (t := true) rfl) ?_; simp only [if_true, if_false, Bool.false_eq_true, ↓reduceIte]; refine GU.ctl hp rfl (fun _ => stepG_seq) ?_; refine GU.ctl hp rfl (fun _ => stepG_cond (t := true) rfl) ?_; simp only [if_true, if_false, Bool.false_eq_true, ↓reduceIte]; refine GU.ctl hp rfl (fun _ => stepG_seq) ?_; refine GU.ctl hp rfl (fun _ => stepG_region) ?_; simp only [List.size_toArray, List.length_cons, List.length_nil, Nat.reduceAdd, Nat.zero_add, List.range, List.range.loop])
    -- STOP me
    refine stopW K rfl rfl rfl (by simp) (by simp) (fun w s hw hs hf => ⟨⟨.ma, 0, b, i, old, aw, sv, it, r, bx, m⟩, 0, s, _, _, _, by simp [Step], by simp [bare], sEnable rfl rfl (by k_ne) rfl, hs, Eff.refl _ _ _, rfl, by simp [EvW, mkE], by simp, ?_⟩)
    (clear hw hs hf; refine ⟨rfl, fun j hj => ?_⟩; walk_nrm)
    (refine GU.ctl hp rfl (fun _ => stepG_region_end) ?_; refine GU.ctl hp rfl (fun _ => stepG_region) ?_; simp only [List.size_toArray, List.length_cons, List.length_nil, Nat.reduceAdd, Nat.zero_add, List.range, List.range.loop]; refine GU.value hp _ rfl rfl (by k_ne) (fun _ => by go_simp <;> rfl) (fun _ => by simp [go_sem, *]) ?_; walk_nrm)
    refine GU.conv hp rfl rfl (by k_ne) rfl rfl u93 u61 z36 (fun w hw => by obtain ⟨x, hx⟩ := hcm w hw; exact ⟨_, hx⟩) ?_
    walk_nrm
    -- STOP ma
    refine stopW K rfl rfl rfl (by simp) (by simp) (fun w s hw hs hf => ⟨{ aftL b 0 i old aw sv it r bx m with c := 0 }, cN, s, _, _, _, by cases b <;> simp [Step, aftL], by cases b <;> simp [bare, aftL, hcN], sAcquire (ad := ⟨c.A, o, none⟩) rfl rfl (by k_ne) rfl (by simp [Act.eval]), hs, Eff.refl _ _ _, rfl, by simp [EvW, mkE, hm], by cases b <;> simp [aftL], ?_⟩)
    clear hw hs hf
    have e : ({ ({ aftL b 0 i old aw sv it r bx m with c := 0 } : Wk) with c := cN } : Wk) = aftL b cN i old aw sv it r bx m := by cases b <;> rfl
    rw [e]
    refine ⟨rfl, fun j hj => ?_⟩
    walk_nrm
    (refine GU.ctl hp rfl (fun _ => stepG_region_end) ?_; refine GU.ctl hp rfl (fun _ => stepG_ret') ?_)
    (refine GU.leave0 hp rfl rfl Try.func44 rfl ?_; walk_nrm)
    (refine GU.ctl hp rfl (fun _ => stepG_region_end) ?_; refine GU.ctl hp rfl (fun _ => stepG_end) ?_)
    (refine GU.leave0 hp rfl rfl Try.func29 rfl ?_; walk_nrm)
    exact (next old aw sv it).2 j (by omega)
  · refine ⟨⟨.mr0, 0, b, i, old, aw, sv, it, r, bx, m⟩, 0, s, _, _, _, .inr ⟨he, rfl, rfl⟩, Nat.zero_le _, stepG_cas_miss rfl rfl (by k_ne) rfl Try.func50 x50_n x50_b x50_x .i32 x50_f rfl rfl rfl hcell (hs.thA o) (enc_ne he), hs, Eff.refl _ _ _, rfl, by simp only [EvW]; rw [hm]; exact atm_r _ _, by simp, ?_⟩
    clear hcell he hw hs hf
    refine ⟨rfl, fun j3 hj3 => ?_⟩
    walk_nrm
    (refine GU.ctl hp rfl (fun _ => stepG_region_end) ?_; refine GU.ctl hp rfl (fun _ => stepG_cond (t := false) rfl) ?_; simp only [if_true, if_false, Bool.false_eq_true, ↓reduceIte]; refine GU.ctl hp rfl (fun _ => stepG_skip) ?_; refine GU.ctl hp rfl (fun _ => stepG_region) ?_; simp only [List.size_toArray, List.length_cons, List.length_nil, Nat.reduceAdd, Nat.zero_add, List.range, List.range.loop]; refine GU.value hp _ rfl rfl (by k_ne) (fun _ => by go_simp <;> rfl) (fun _ => by simp [go_sem, *]) ?_; walk_nrm)
    (refine GU.call hp rfl rfl (by k_ne) rfl Try.func51 nm51 rfl ?_; walk_nrmf Try.f51)
    refine (lockSlowL K hB hm hms (k₀ := k₀) hcN (fun old aw sv it => ⟨rfl, fun j hj => ?_⟩) old aw sv it).2 j3 (by omega)
    walk_nrm
    (refine GU.ctl hp rfl (fun _ => stepG_region_end) ?_; refine GU.ctl hp rfl (fun _ => stepG_end) ?_)
    (refine GU.leave0 hp rfl rfl Try.func44 rfl ?_; walk_nrm)
    (refine GU.ctl hp rfl (fun _ => stepG_region_end) ?_; refine GU.ctl hp rfl (fun _ => stepG_end) ?_)
    (refine GU.leave0 hp rfl rfl Try.func29 rfl ?_; walk_nrm)
    exact (next old aw sv it).2 j (by omega)
end
end Go.Proofs.Ytnlopklbbajlbaa.Sw
