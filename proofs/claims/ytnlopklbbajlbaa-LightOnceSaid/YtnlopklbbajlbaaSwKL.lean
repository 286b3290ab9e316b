/- LightOnce: the walk through lockSlow (printed in part by tools/genlock.py). -/
import Derived.Test.YtnlopklbbajlbaaSwKV
set_option linter.unusedVariables false
set_option linter.unusedSimpArgs false
set_option maxRecDepth 100000
namespace Go.Proofs.Ytnlopklbbajlbaa.Sw
open Go Go.Conc Go.ConcN Go.RowKit
open Go.ConcR (DC0 stA smA)
noncomputable def body51 : Code := Try.f51.body.getD .skip
noncomputable def LL51 : Code := (findLoop body51).getD .skip
def behindBlock : Code → Option Code
  | .seq (.block _ _) r => some r
  | .seq _ y => behindBlock y
  | _ => none
noncomputable def REST51 : Code := (behindBlock body51).getD .skip
/-- The text from region number id on. -/
def firstId : Code → Option Nat
  | .region id _ _ => some id
  | .seq x _ => firstId x
  | _ => none
def tailFrom (id : Nat) : Code → Option Code
  | .seq x y => if firstId x = some id then some (.seq x y) else match tailFrom id x with | some c => some c | none => tailFrom id y
  | .region i ops d => if i = id then some (.region i ops d) else none
  | .cond _ x y => match tailFrom id x with | some c => some c | none => tailFrom id y
  | .loop c => tailFrom id c
  | .block _ c => tailFrom id c
  | _ => none
noncomputable def T51 (id : Nat) : Code := (tailFrom id body51).getD .skip
/-- Behind Lock. -/
def aftL (b : Bool) (cN i : Nat) (old : MuW) (aw sv : Bool) (it : Nat) (r : Bool) (bx m : Nat) : Wk := ⟨if b then .dn1 else .lk1, cN, b, i, old, aw, sv, it, r, bx, m⟩

section
variable {c : TC} {q : AP} {bx : Nat} {p : World → Prop} {o : Nat} {b : Bool} {i m : Nat} {r : Bool} {cs : List Frame} {b₁ : Frame} {a₁ : Act} {ops₁ : Array Oper} {i₁ : Nat} {rest₁ : List Nat} {k₁ : List Item}
set_option maxHeartbeats 16000000 in
theorem restL (K : KN c bx p) (hB : q.B < 60) (hm : mxA c b = ⟨c.A, o, none⟩) (hms : msA c b = ⟨c.A, o + 1, none⟩) {k₀ cN : Nat} (hcN : cN ≤ 16)
    (next : ∀ old aw sv it, WU c q bx p k₀ (aftL b cN i old aw sv it r bx m) (G (b₁.at (a₁.put ((ops₁[i₁]?).bind (·.dst)) (.tuple #[])) (.inRegion ops₁ rest₁ :: k₁)) cs)) (old : MuW) (aw sv : Bool) (it : Nat) : ∀ (j1 j2 j3 j4 j5 j6 j7 j8 j9 j10 j11 j12 j13 j14 j15 j16 j17 j18 j19 j20 j21 j22 j23 j24 j25 j26 j27 j28 j29 j30 j31 j32 j33 j34 j35 j36 j37 j38 j39 j40 j41 j42 j43 j44 j45 j46 j47 j48 j49 j50 j51 j52 j53 j54 j55 j56 j57 j58 j59 j60 j61 j62 j63 j64 j65 j66 j67 j68 j69 j70 j71 j72 j73 j74 j75 j76 j77 j78 j79 j80 j81 j82 j83 j84 j85 j86 j87 j88 j89 j90 j91 j92 j93 j94 j95 j96 j97 j98 j99 j100 j101 j102 j103 j104 j105 j106 j107 j108 j109 j110 j111 j112 j113 j114 j115 j116 j117 j118 j119 j120 j121 j122 j123 j124 j125 j126 j127 j128 j129 j130 j131 j132 j133 j134 j135 j136 j137 j138 : Value),
    WU c q bx p k₀ ⟨.me, 0, b, i, old, aw, sv, it, r, bx, m⟩ (G ((Go.Conc.base 51).at ⟨#[.pointer (some ⟨c.A, o, none⟩), j1, j2, j3, j4, j5, j6, j7, j8, j9, j10, j11, j12, j13, j14, j15, j16, j17, j18, j19, j20, j21, j22, j23, j24, j25, j26, j27, j28, j29, j30, j31, j32, j33, j34, j35, j36, j37, j38, j39, j40, j41, j42, j43, j44, j45, j46, j47, j48, j49, j50, j51, j52, j53, j54, j55, j56, j57, j58, j59, j60, j61, j62, j63, j64, j65, j66, j67, j68, j69, j70, j71, j72, j73, j74, j75, j76, j77, j78, j79, j80, j81, j82, j83, j84, j85, j86, j87, j88, j89, j90, j91, j92, j93, j94, j95, j96, j97, j98, j99, j100, j101, j102, j103, j104, j105, j106, j107, j108, j109, j110, j111, j112, j113, j114, j115, j116, j117, j118, j119, j120, j121, j122, j123, j124, j125, j126, j127, j128, j129, j130, j131, j132, j133, j134, j135, j136, j137, j138], []⟩ [.code REST51]) (b₁.at a₁ (.inRegion ops₁ (i₁ :: rest₁) :: k₁) :: cs)) := by
  intro j1 j2 j3 j4 j5 j6 j7 j8 j9 j10 j11 j12 j13 j14 j15 j16 j17 j18 j19 j20 j21 j22 j23 j24 j25 j26 j27 j28 j29 j30 j31 j32 j33 j34 j35 j36 j37 j38 j39 j40 j41 j42 j43 j44 j45 j46 j47 j48 j49 j50 j51 j52 j53 j54 j55 j56 j57 j58 j59 j60 j61 j62 j63 j64 j65 j66 j67 j68 j69 j70 j71 j72 j73 j74 j75 j76 j77 j78 j79 j80 j81 j82 j83 j84 j85 j86 j87 j88 j89 j90 j91 j92 j93 j94 j95 j96 j97 j98 j99 j100 j101 j102 j103 j104 j105 j106 j107 j108 j109 j110 j111 j112 j113 j114 j115 j116 j117 j118 j119 j120 j121 j122 j123 j124 j125 j126 j127 j128 j129 j130 j131 j132 j133 j134 j135 j136 j137 j138
  have hp := K.st
  have hcm : ∀ w, p w → ∃ x : MuW, w.cell? ⟨c.A, o, none⟩ = some (.int .i32 (enc x)) := fun w hw => by
    obtain ⟨s, hs⟩ := K.live w hw
    exact ⟨_, by rw [← hm]; exact hs.cMx b⟩
  refine ⟨rfl, fun j hj => ?_⟩
  simp only [REST51, body51, behindBlock, Try.f51, Option.getD_some]
  (refine GU.ctl hp rfl (fun _ => stepG_cond (t := true) rfl) ?_; simp only [if_true, if_false, Bool.false_eq_true, ↓reduceIte]; refine GU.ctl hp rfl (fun _ => stepG_seq) ?_; refine GU.ctl hp rfl (fun _ => stepG_region) ?_; simp only [List.size_toArray, List.length_cons, List.length_nil, Nat.reduceAdd, Nat.zero_add, List.range, List.range.loop])
  -- STOP me
  refine stopW K rfl rfl rfl (by simp) (by simp) (fun w s hw hs hf => ⟨⟨.ma, 0, b, i, old, aw, sv, it, r, bx, m⟩, 0, s, _, _, _, by simp [Step], by simp [bare], sEnable rfl rfl (by k_ne) rfl, hs, Eff.refl _ _ _, rfl, by simp [EvW, mkE], by simp, ?_⟩)
  (clear hw hs hf; refine ⟨rfl, fun j hj => ?_⟩; walk_nrm)
  (refine GU.ctl hp rfl (fun _ => stepG_region_end) ?_; refine GU.ctl hp rfl (fun _ => stepG_region) ?_; simp only [List.size_toArray, List.length_cons, List.length_nil, Nat.reduceAdd, Nat.zero_add, List.range, List.range.loop]; refine GU.value hp _ rfl rfl (by k_ne) (fun _ => by go_simp <;> rfl) (fun _ => by simp [go_sem, *]) ?_; walk_nrm)
  refine GU.conv hp rfl rfl (by k_ne) rfl rfl u93 u61 z36 (fun w hw => by obtain ⟨x, hx⟩ := hcm w hw; exact ⟨_, hx⟩) ?_
  walk_nrm
  -- STOP ma
  refine stopW K rfl rfl rfl (by simp) (by simp) (fun w s hw hs hf => ⟨{ aftL b 0 i old aw sv it r bx m with c := 0 }, cN, s, _, _, _, by cases b <;> simp [Step, aftL], by cases b <;> simp [bare, aftL, hcN], sAcquire (ad := ⟨c.A, o, none⟩) rfl rfl (by k_ne) rfl (by simp [Act.eval]), hs, Eff.refl _ _ _, rfl, by simp [EvW, mkE, hm], by cases b <;> simp [aftL], ?_⟩)
  clear hw hs hf
  have e : ({ ({ aftL b 0 i old aw sv it r bx m with c := 0 } : Wk) with c := cN } : Wk) = aftL b cN i old aw sv it r bx m := by cases b <;> rfl
  rw [e]
  refine ⟨rfl, fun j hj => ?_⟩
  walk_nrm
  (refine GU.ctl hp rfl (fun _ => stepG_region_end) ?_; refine GU.ctl hp rfl (fun _ => stepG_end) ?_)
  (refine GU.leave0 hp rfl rfl Try.func51 rfl ?_; walk_nrm)
  exact (next old aw sv it).2 j (by omega)
set_option maxHeartbeats 16000000 in
theorem mr2L (K : KN c bx p) (hB : q.B < 60) (hm : mxA c b = ⟨c.A, o, none⟩) (hms : msA c b = ⟨c.A, o + 1, none⟩) {k₀ cN : Nat} (hcN : cN ≤ 16)
    (next : ∀ old aw sv it, WU c q bx p k₀ (aftL b cN i old aw sv it r bx m) (G (b₁.at (a₁.put ((ops₁[i₁]?).bind (·.dst)) (.tuple #[])) (.inRegion ops₁ rest₁ :: k₁)) cs)) (k : Nat) (hk : k ≤ k₀) (ih : ∀ k', k' < k → ∀ (x : MuW) (aw sv : Bool) (it : Nat) (ws : Int), x.n < 60 → (aw = true → x.k = true) → it ≤ 4 → ∀ (j1 j7 j8 j9 j10 j11 j12 j13 j14 j15 j16 j17 j18 j19 j20 j21 j22 j23 j24 j25 j26 j27 j28 j29 j30 j31 j32 j33 j34 j35 j36 j37 j38 j39 j40 j41 j42 j43 j44 j45 j46 j47 j48 j49 j50 j51 j52 j53 j54 j55 j56 j57 j58 j59 j60 j61 j62 j63 j64 j65 j66 j67 j68 j69 j70 j71 j72 j73 j74 j75 j76 j77 j78 j79 j80 j81 j82 j83 j84 j85 j86 j87 j88 j89 j90 j91 j92 j93 j94 j95 j96 j97 j98 j99 j100 j101 j102 j103 j104 j105 j106 j107 j108 j109 j110 j111 j112 j113 j114 j115 j116 j117 j118 j119 j120 j121 j122 j123 j124 j125 j126 j127 j128 j129 j130 j131 j132 j133 j134 j135 j136 j137 j138 : Value), WU c q bx p k' ⟨if x.l && !x.s then .msq else .mc2, 0, b, i, x, aw, sv, it, r, bx, m⟩ (G ((Go.Conc.base 51).at ⟨#[.pointer (some ⟨c.A, o, none⟩), j1, .int .i64 ws, .bool sv, .bool aw, .int .i64 (it : Int), .int .i32 (enc x), j7, j8, j9, j10, j11, j12, j13, j14, j15, j16, j17, j18, j19, j20, j21, j22, j23, j24, j25, j26, j27, j28, j29, j30, j31, j32, j33, j34, j35, j36, j37, j38, j39, j40, j41, j42, j43, j44, j45, j46, j47, j48, j49, j50, j51, j52, j53, j54, j55, j56, j57, j58, j59, j60, j61, j62, j63, j64, j65, j66, j67, j68, j69, j70, j71, j72, j73, j74, j75, j76, j77, j78, j79, j80, j81, j82, j83, j84, j85, j86, j87, j88, j89, j90, j91, j92, j93, j94, j95, j96, j97, j98, j99, j100, j101, j102, j103, j104, j105, j106, j107, j108, j109, j110, j111, j112, j113, j114, j115, j116, j117, j118, j119, j120, j121, j122, j123, j124, j125, j126, j127, j128, j129, j130, j131, j132, j133, j134, j135, j136, j137, j138], []⟩ [.code LL51, .inLoop LL51, .inBlock 0, .code REST51]) (b₁.at a₁ (.inRegion ops₁ (i₁ :: rest₁) :: k₁) :: cs)))
    (old : MuW) (aw sv : Bool) (it : Nat) (ws : Int) : ∀ (j4 j5 j6 j1 j7 j8 j9 j10 j11 j12 j13 j14 j15 j16 j17 j18 j19 j20 j21 j22 j23 j24 j25 j26 j27 j28 j29 j30 j31 j32 j33 j34 j35 j36 j37 j38 j39 j40 j41 j42 j43 j44 j45 j46 j47 j48 j49 j50 j51 j52 j53 j54 j55 j56 j57 j58 j59 j60 j61 j62 j63 j64 j65 j66 j67 j68 j69 j70 j71 j72 j73 j74 j75 j76 j77 j78 j79 j80 j81 j82 j83 j84 j85 j86 j87 j88 j89 j90 j91 j92 j93 j94 j95 j96 j97 j98 j99 j100 j101 j102 j103 j104 j105 j106 j107 j108 j109 j110 j111 j112 j113 j114 j115 j116 j117 j118 j119 j120 j121 j122 j123 j124 j125 j126 j127 j128 j129 j130 j131 j132 j133 j134 j135 j136 j137 j138 : Value),
    WU c q bx p k ⟨.mr2, 0, b, i, old, aw, sv, it, r, bx, m⟩ (G ((Go.Conc.base 51).at ⟨#[.pointer (some ⟨c.A, o, none⟩), j1, .int .i64 ws, .bool sv, j4, j5, j6, j7, j8, j9, j10, j11, j12, j13, j14, j15, j16, j17, j18, j19, j20, j21, j22, j23, j24, j25, j26, j27, j28, j29, j30, j31, j32, j33, j34, j35, j36, j37, j38, j39, j40, j41, j42, j43, j44, j45, j46, j47, j48, j49, j50, j51, j52, j53, j54, j55, j56, j57, j58, j59, j60, j61, j62, j63, j64, j65, j66, j67, j68, j69, j70, j71, j72, j73, j74, j75, j76, j77, j78, j79, j80, j81, j82, j83, j84, j85, j86, j87, j88, j89, j90, j91, j92, j93, j94, j95, j96, j97, j98, j99, j100, j101, j102, j103, j104, j105, j106, j107, j108, j109, j110, j111, j112, j113, j114, j115, j116, j117, j118, j119, j120, j121, j122, j123, j124, j125, j126, j127, j128, j129, j130, j131, j132, j133, j134, j135, j136, j137, j138], []⟩ [.code (T51 29), .inBlock 1, .inLoop LL51, .inBlock 0, .code REST51]) (b₁.at a₁ (.inRegion ops₁ (i₁ :: rest₁) :: k₁) :: cs)) := by
  intro j4 j5 j6 j1 j7 j8 j9 j10 j11 j12 j13 j14 j15 j16 j17 j18 j19 j20 j21 j22 j23 j24 j25 j26 j27 j28 j29 j30 j31 j32 j33 j34 j35 j36 j37 j38 j39 j40 j41 j42 j43 j44 j45 j46 j47 j48 j49 j50 j51 j52 j53 j54 j55 j56 j57 j58 j59 j60 j61 j62 j63 j64 j65 j66 j67 j68 j69 j70 j71 j72 j73 j74 j75 j76 j77 j78 j79 j80 j81 j82 j83 j84 j85 j86 j87 j88 j89 j90 j91 j92 j93 j94 j95 j96 j97 j98 j99 j100 j101 j102 j103 j104 j105 j106 j107 j108 j109 j110 j111 j112 j113 j114 j115 j116 j117 j118 j119 j120 j121 j122 j123 j124 j125 j126 j127 j128 j129 j130 j131 j132 j133 j134 j135 j136 j137 j138
  have hp := K.st
  refine ⟨rfl, fun j hj => ?_⟩
  simp (config := { decide := true }) only [T51, body51, findLoop, behindBlock, tailFrom, firstId, Try.f51, Option.getD_some, reduceIte, Option.some.injEq, Nat.reduceEqDiff, reduceCtorEq]
  (refine GU.ctl hp rfl (fun _ => stepG_seq) ?_; refine GU.ctl hp rfl (fun _ => stepG_region) ?_; simp only [List.size_toArray, List.length_cons, List.length_nil, Nat.reduceAdd, Nat.zero_add, List.range, List.range.loop]; (iterate 3 (refine GU.value hp _ rfl rfl (by k_ne) (fun _ => by go_simp <;> rfl) (fun _ => by simp [go_sem, *]) ?_; walk_nrm)))
  -- STOP mr2
  refine stopW K rfl rfl rfl (by simp) (by simp) (fun w s hw hs hf => ?_)
  have hcell : w.cell? ⟨c.A, o, none⟩ = some (.int .i32 (enc (s.mx b).w)) := by rw [← hm]; exact hs.cMx b
  have hn : (s.mx b).w.n < 60 := by have := (hf.bnd b).1; omega
  have ht := hf.tk rfl
  have htn := hf.tkn rfl
  simp only at ht htn
  rcases hys : (s.mx b).w.s with _ | _
  · refine ⟨⟨if (s.mx b).w.l && !(s.mx b).w.s then .msq else .mc2, 0, b, i, (s.mx b).w, true, sv, 0, r, bx, m⟩, 0, s, _, _, _, ?_, Nat.zero_le _, stepG_loadQ rfl rfl (by k_ne) rfl rfl hcell q51, hs, Eff.refl _ _ _, rfl, by simp [EvW], by split <;> simp, ?_⟩
    · simp only [Step, head]
      exact ⟨.inr ⟨hys, by split <;> rfl⟩, trivial⟩
    have hk := htn hys
    clear ht htn hcell hw hs hf
    generalize (s.mx b).w = y at *
    refine ⟨rfl, fun j2 hj2 => ?_⟩
    walk_nrm
    (refine GU.value hp _ rfl rfl (by k_ne) (fun _ => by go_simp <;> rfl) (fun _ => by simp [go_sem, *]) ?_; walk_nrm; refine GU.ctl hp rfl (fun _ => stepG_region_end) ?_; (iterate 2 (refine GU.ctl hp rfl (fun _ => stepG_seq) ?_)); refine GU.ctl hp rfl (fun _ => stepG_region) ?_; simp only [List.size_toArray, List.length_cons, List.length_nil, Nat.reduceAdd, Nat.zero_add, List.range, List.range.loop]; (iterate 3 (refine GU.value hp _ rfl rfl (by k_ne) (fun _ => by go_simp <;> rfl) (fun _ => by simp [go_sem, *]) ?_; walk_nrm)); refine GU.ctl hp rfl (fun _ => stepG_region_end) ?_)
    have e4 := d_4n y (by omega)
    rw [hys] at e4
    rw [e4]
    (refine GU.ctl hp rfl (fun _ => stepG_cond (t := false) rfl) ?_; simp only [if_true, if_false, Bool.false_eq_true, ↓reduceIte]; refine GU.ctl hp rfl (fun _ => stepG_skip) ?_; refine GU.ctl hp rfl (fun _ => stepG_seq) ?_; refine GU.ctl hp rfl (fun _ => stepG_region) ?_; simp only [List.size_toArray, List.length_cons, List.length_nil, Nat.reduceAdd, Nat.zero_add, List.range, List.range.loop]; refine GU.value hp _ rfl rfl (by k_ne) (fun _ => by go_simp <;> rfl) (fun _ => by simp [go_sem, *]) ?_; walk_nrm; refine GU.ctl hp rfl (fun _ => stepG_region_end) ?_; refine GU.ctl hp rfl (fun _ => stepG_region) ?_; simp only [List.size_toArray, List.length_cons, List.length_nil, Nat.reduceAdd, Nat.zero_add, List.range, List.range.loop]; refine GU.value hp _ rfl rfl (by k_ne) (fun _ => by go_simp <;> rfl) (fun _ => by simp [go_sem, *]) ?_; walk_nrm; refine GU.ctl hp rfl (fun _ => stepG_region_end) ?_; refine GU.ctl hp rfl (fun _ => stepG_inBlock) ?_)
    refine GU.ctl hp rfl (fun _ => stepG_inLoop) ?_
    exact (ih j hj y true sv 0 ws hn (fun _ => hk) (by omega) _ _ _ _ _ _ _ _ _ _ _ _ _ _ _ _ _ _ _ _ _ _ _ _ _ _ _ _ _ _ _ _ _ _ _ _ _ _ _ _ _ _ _ _ _ _ _ _ _ _ _ _ _ _ _ _ _ _ _ _ _ _ _ _ _ _ _ _ _ _ _ _ _ _ _ _ _ _ _ _ _ _ _ _ _ _ _ _ _ _ _ _ _ _ _ _ _ _ _ _ _ _ _ _ _ _ _ _ _ _ _ _ _ _ _ _ _ _ _ _ _ _ _ _ _ _ _ _ _ _ _ _ _ ).2 j2 hj2
  · obtain ⟨hk, hl, hn0⟩ := ht hys
    refine ⟨⟨.ma1, 0, b, i, (s.mx b).w, aw, sv, it, r, bx, m⟩, 0, s, _, _, _, by simp [Step, hys], Nat.zero_le _, stepG_loadQ rfl rfl (by k_ne) rfl rfl hcell q51, hs, Eff.refl _ _ _, rfl, by simp [EvW], by simp, ?_⟩
    clear ht htn hcell hw hs hf
    generalize (s.mx b).w = y at *
    refine ⟨rfl, fun j2 hj2 => ?_⟩
    walk_nrm
    (refine GU.value hp _ rfl rfl (by k_ne) (fun _ => by go_simp <;> rfl) (fun _ => by simp [go_sem, *]) ?_; walk_nrm; refine GU.ctl hp rfl (fun _ => stepG_region_end) ?_; (iterate 2 (refine GU.ctl hp rfl (fun _ => stepG_seq) ?_)); refine GU.ctl hp rfl (fun _ => stepG_region) ?_; simp only [List.size_toArray, List.length_cons, List.length_nil, Nat.reduceAdd, Nat.zero_add, List.range, List.range.loop]; (iterate 3 (refine GU.value hp _ rfl rfl (by k_ne) (fun _ => by go_simp <;> rfl) (fun _ => by simp [go_sem, *]) ?_; walk_nrm)); refine GU.ctl hp rfl (fun _ => stepG_region_end) ?_)
    rw [d_4n _ (by omega), hys]
    (refine GU.ctl hp rfl (fun _ => stepG_cond (t := true) rfl) ?_; simp only [if_true, if_false, Bool.false_eq_true, ↓reduceIte]; (iterate 2 (refine GU.ctl hp rfl (fun _ => stepG_seq) ?_)); refine GU.ctl hp rfl (fun _ => stepG_region) ?_; simp only [List.size_toArray, List.length_cons, List.length_nil, Nat.reduceAdd, Nat.zero_add, List.range, List.range.loop]; (iterate 4 (refine GU.value hp _ rfl rfl (by k_ne) (fun _ => by go_simp <;> rfl) (fun _ => by simp [go_sem, *]) ?_; walk_nrm)))
    rw [d_3n _ (by omega), hl, hk]
    simp only [Bool.or_false, Bool.false_or]
    ((iterate 4 (refine GU.value hp _ rfl rfl (by k_ne) (fun _ => by go_simp <;> rfl) (fun _ => by simp [go_sem, *]) ?_; walk_nrm)); refine GU.ctl hp rfl (fun _ => stepG_region_end) ?_)
    rw [d_sh _ (by omega)]
    simp only [show ¬ y.n = 0 from by omega, decide_false]
    (refine GU.ctl hp rfl (fun _ => stepG_cond (t := false) rfl) ?_; simp only [if_true, if_false, Bool.false_eq_true, ↓reduceIte]; refine GU.ctl hp rfl (fun _ => stepG_skip) ?_; refine GU.ctl hp rfl (fun _ => stepG_seq) ?_; refine GU.ctl hp rfl (fun _ => stepG_region) ?_; simp only [List.size_toArray, List.length_cons, List.length_nil, Nat.reduceAdd, Nat.zero_add, List.range, List.range.loop]; refine GU.value hp _ rfl rfl (by k_ne) (fun _ => by go_simp <;> rfl) (fun _ => by simp [go_sem, *]) ?_; walk_nrm; refine GU.ctl hp rfl (fun _ => stepG_region_end) ?_; (iterate 2 (refine GU.ctl hp rfl (fun _ => stepG_seq) ?_)); refine GU.ctl hp rfl (fun _ => stepG_region) ?_; simp only [List.size_toArray, List.length_cons, List.length_nil, Nat.reduceAdd, Nat.zero_add, List.range, List.range.loop]; (iterate 3 (refine GU.value hp _ rfl rfl (by k_ne) (fun _ => by go_simp <;> rfl) (fun _ => by simp [go_sem, *]) ?_; walk_nrm)))
    rcases sv with _ | _
    · ((iterate 3 (refine GU.unwanted hp rfl rfl ?_; walk_nrm)); refine GU.value hp _ rfl rfl (by k_ne) (fun _ => by go_simp <;> rfl) (fun _ => by simp [go_sem, *]) ?_; walk_nrm; refine GU.ctl hp rfl (fun _ => stepG_region_end) ?_; refine GU.ctl hp rfl (fun _ => stepG_cond (t := true) rfl) ?_; simp only [if_true, if_false, Bool.false_eq_true, ↓reduceIte]; refine GU.ctl hp rfl (fun _ => stepG_region) ?_; simp only [List.size_toArray, List.length_cons, List.length_nil, Nat.reduceAdd, Nat.zero_add, List.range, List.range.loop]; (iterate 3 (refine GU.value hp _ rfl rfl (by k_ne) (fun _ => by go_simp <;> rfl) (fun _ => by simp [go_sem, *]) ?_; walk_nrm)); refine GU.ctl hp rfl (fun _ => stepG_region_end) ?_; refine GU.ctl hp rfl (fun _ => stepG_seq) ?_; refine GU.ctl hp rfl (fun _ => stepG_region) ?_; simp only [List.size_toArray, List.length_cons, List.length_nil, Nat.reduceAdd, Nat.zero_add, List.range, List.range.loop]; (iterate 4 (refine GU.value hp _ rfl rfl (by k_ne) (fun _ => by go_simp <;> rfl) (fun _ => by simp [go_sem, *]) ?_; walk_nrm)))
      -- STOP ma1
      refine stopW K rfl rfl rfl (by simp) (by simp) (fun w s hw hs hf => ?_)
      have hcell : w.cell? ⟨c.A, o, none⟩ = some (.int .i32 (enc (s.mx b).w)) := by rw [← hm]; exact hs.cMx b
      have hn' : (s.mx b).w.n < 64 := by have := (hf.bnd b).1; omega
      obtain ⟨a1, a2, a3, a4⟩ := hf.ad rfl
      simp only at a1 a2 a3 a4
      have hset := hs.setMx b ⟨true, (s.mx b).w.k, false, (s.mx b).w.n - 1⟩
      rw [hm] at hset
      have hadd := d_ad11 _ hn' a4 a3 a2 a1
      refine ⟨⟨.me, 0, b, i, y, aw, _, it, r, bx, m⟩, 0, s.put b ⟨⟨true, (s.mx b).w.k, false, (s.mx b).w.n - 1⟩, (s.mx b).sem⟩, _, _, _, ⟨rfl, by first | rfl | (simp only [h1]; rfl) | (have h2 : (y.n == 1) = false := beq_eq_false_iff_ne.2 h1; simp only [h2]; rfl)⟩, Nat.zero_le _, stepG_add_atomic rfl rfl (by k_ne) rfl Try.func52 x52_n x52_b x52_x .i32 x52_f rfl rfl hcell (hs.thA o), by first | (rw [hadd]; exact hset) | (rw [show IntKind.i32.wrap (-11) = -11 from by decide, hadd]; exact hset), Eff.set _ _ _ _ _ (.inl rfl), (aside_setCell _ _ _).size, by simp only [EvW]; rw [hm]; exact atm_rw _, by simp, ?_⟩
      clear hset hadd hcell a1 a2 a3 a4 hn'
      (clear hw hs hf; refine ⟨rfl, fun j hj => ?_⟩; walk_nrm)
      (refine GU.ctl hp rfl (fun _ => stepG_region_end) ?_; refine GU.ctl hp rfl (fun _ => stepG_exit rfl) ?_)
      exact (restL K hB hm hms hcN next y aw _ it _ _ _ _ _ _ _ _ _ _ _ _ _ _ _ _ _ _ _ _ _ _ _ _ _ _ _ _ _ _ _ _ _ _ _ _ _ _ _ _ _ _ _ _ _ _ _ _ _ _ _ _ _ _ _ _ _ _ _ _ _ _ _ _ _ _ _ _ _ _ _ _ _ _ _ _ _ _ _ _ _ _ _ _ _ _ _ _ _ _ _ _ _ _ _ _ _ _ _ _ _ _ _ _ _ _ _ _ _ _ _ _ _ _ _ _ _ _ _ _ _ _ _ _ _ _ _ _ _ _ _ _ _ _ _ _ _ _ ).2 j (by omega)
    · ((iterate 4 (refine GU.value hp _ rfl rfl (by k_ne) (fun _ => by go_simp <;> rfl) (fun _ => by simp [go_sem, *]) ?_; walk_nrm)); refine GU.ctl hp rfl (fun _ => stepG_region_end) ?_)
      rw [d_sh1 _ (by omega)]
      by_cases h1 : y.n = 1
      · simp only [h1, decide_true]
        (refine GU.ctl hp rfl (fun _ => stepG_cond (t := true) rfl) ?_; simp only [if_true, if_false, Bool.false_eq_true, ↓reduceIte]; refine GU.ctl hp rfl (fun _ => stepG_region) ?_; simp only [List.size_toArray, List.length_cons, List.length_nil, Nat.reduceAdd, Nat.zero_add, List.range, List.range.loop]; (iterate 3 (refine GU.value hp _ rfl rfl (by k_ne) (fun _ => by go_simp <;> rfl) (fun _ => by simp [go_sem, *]) ?_; walk_nrm)); refine GU.ctl hp rfl (fun _ => stepG_region_end) ?_; refine GU.ctl hp rfl (fun _ => stepG_seq) ?_; refine GU.ctl hp rfl (fun _ => stepG_region) ?_; simp only [List.size_toArray, List.length_cons, List.length_nil, Nat.reduceAdd, Nat.zero_add, List.range, List.range.loop]; (iterate 4 (refine GU.value hp _ rfl rfl (by k_ne) (fun _ => by go_simp <;> rfl) (fun _ => by simp [go_sem, *]) ?_; walk_nrm)))
        -- STOP ma1
        refine stopW K rfl rfl rfl (by simp) (by simp) (fun w s hw hs hf => ?_)
        have hcell : w.cell? ⟨c.A, o, none⟩ = some (.int .i32 (enc (s.mx b).w)) := by rw [← hm]; exact hs.cMx b
        have hn' : (s.mx b).w.n < 64 := by have := (hf.bnd b).1; omega
        obtain ⟨a1, a2, a3, a4⟩ := hf.ad rfl
        simp only at a1 a2 a3 a4
        have hset := hs.setMx b ⟨true, (s.mx b).w.k, false, (s.mx b).w.n - 1⟩
        rw [hm] at hset
        have hadd := d_ad11 _ hn' a4 a3 a2 a1
        refine ⟨⟨.me, 0, b, i, y, aw, _, it, r, bx, m⟩, 0, s.put b ⟨⟨true, (s.mx b).w.k, false, (s.mx b).w.n - 1⟩, (s.mx b).sem⟩, _, _, _, ⟨rfl, by first | rfl | (simp only [h1]; rfl) | (have h2 : (y.n == 1) = false := beq_eq_false_iff_ne.2 h1; simp only [h2]; rfl)⟩, Nat.zero_le _, stepG_add_atomic rfl rfl (by k_ne) rfl Try.func52 x52_n x52_b x52_x .i32 x52_f rfl rfl hcell (hs.thA o), by first | (rw [hadd]; exact hset) | (rw [show IntKind.i32.wrap (-11) = -11 from by decide, hadd]; exact hset), Eff.set _ _ _ _ _ (.inl rfl), (aside_setCell _ _ _).size, by simp only [EvW]; rw [hm]; exact atm_rw _, by simp, ?_⟩
        clear hset hadd hcell a1 a2 a3 a4 hn'
        (clear hw hs hf; refine ⟨rfl, fun j hj => ?_⟩; walk_nrm)
        (refine GU.ctl hp rfl (fun _ => stepG_region_end) ?_; refine GU.ctl hp rfl (fun _ => stepG_exit rfl) ?_)
        exact (restL K hB hm hms hcN next y aw _ it _ _ _ _ _ _ _ _ _ _ _ _ _ _ _ _ _ _ _ _ _ _ _ _ _ _ _ _ _ _ _ _ _ _ _ _ _ _ _ _ _ _ _ _ _ _ _ _ _ _ _ _ _ _ _ _ _ _ _ _ _ _ _ _ _ _ _ _ _ _ _ _ _ _ _ _ _ _ _ _ _ _ _ _ _ _ _ _ _ _ _ _ _ _ _ _ _ _ _ _ _ _ _ _ _ _ _ _ _ _ _ _ _ _ _ _ _ _ _ _ _ _ _ _ _ _ _ _ _ _ _ _ _ _ _ _ _ _ ).2 j (by omega)
      · simp only [h1, decide_false]
        (refine GU.ctl hp rfl (fun _ => stepG_cond (t := false) rfl) ?_; simp only [if_true, if_false, Bool.false_eq_true, ↓reduceIte]; refine GU.ctl hp rfl (fun _ => stepG_skip) ?_; refine GU.ctl hp rfl (fun _ => stepG_seq) ?_; refine GU.ctl hp rfl (fun _ => stepG_region) ?_; simp only [List.size_toArray, List.length_cons, List.length_nil, Nat.reduceAdd, Nat.zero_add, List.range, List.range.loop]; (iterate 4 (refine GU.value hp _ rfl rfl (by k_ne) (fun _ => by go_simp <;> rfl) (fun _ => by simp [go_sem, *]) ?_; walk_nrm)))
        -- STOP ma1
        refine stopW K rfl rfl rfl (by simp) (by simp) (fun w s hw hs hf => ?_)
        have hcell : w.cell? ⟨c.A, o, none⟩ = some (.int .i32 (enc (s.mx b).w)) := by rw [← hm]; exact hs.cMx b
        have hn' : (s.mx b).w.n < 64 := by have := (hf.bnd b).1; omega
        obtain ⟨a1, a2, a3, a4⟩ := hf.ad rfl
        simp only at a1 a2 a3 a4
        have hset := hs.setMx b ⟨true, (s.mx b).w.k, true, (s.mx b).w.n - 1⟩
        rw [hm] at hset
        have hadd := d_ad7 _ hn' a4 a3 a2 a1
        refine ⟨⟨.me, 0, b, i, y, aw, _, it, r, bx, m⟩, 0, s.put b ⟨⟨true, (s.mx b).w.k, true, (s.mx b).w.n - 1⟩, (s.mx b).sem⟩, _, _, _, ⟨rfl, by first | rfl | (simp only [h1]; rfl) | (have h2 : (y.n == 1) = false := beq_eq_false_iff_ne.2 h1; simp only [h2]; rfl)⟩, Nat.zero_le _, stepG_add_atomic rfl rfl (by k_ne) rfl Try.func52 x52_n x52_b x52_x .i32 x52_f rfl rfl hcell (hs.thA o), by first | (rw [hadd]; exact hset) | (rw [show IntKind.i32.wrap (-11) = -11 from by decide, hadd]; exact hset), Eff.set _ _ _ _ _ (.inl rfl), (aside_setCell _ _ _).size, by simp only [EvW]; rw [hm]; exact atm_rw _, by simp, ?_⟩
        clear hset hadd hcell a1 a2 a3 a4 hn'
        (clear hw hs hf; refine ⟨rfl, fun j hj => ?_⟩; walk_nrm)
        (refine GU.ctl hp rfl (fun _ => stepG_region_end) ?_; refine GU.ctl hp rfl (fun _ => stepG_exit rfl) ?_)
        exact (restL K hB hm hms hcN next y aw _ it _ _ _ _ _ _ _ _ _ _ _ _ _ _ _ _ _ _ _ _ _ _ _ _ _ _ _ _ _ _ _ _ _ _ _ _ _ _ _ _ _ _ _ _ _ _ _ _ _ _ _ _ _ _ _ _ _ _ _ _ _ _ _ _ _ _ _ _ _ _ _ _ _ _ _ _ _ _ _ _ _ _ _ _ _ _ _ _ _ _ _ _ _ _ _ _ _ _ _ _ _ _ _ _ _ _ _ _ _ _ _ _ _ _ _ _ _ _ _ _ _ _ _ _ _ _ _ _ _ _ _ _ _ _ _ _ _ _ ).2 j (by omega)
end
end Go.Proofs.Ytnlopklbbajlbaa.Sw
