/- LightOnce: the walk through lockSlow: it tries (printed in part by tools/genlock.py). -/
import Derived.Test.YtnlopklbbajlbaaSwKM
set_option linter.unusedVariables false
set_option linter.unusedSimpArgs false
set_option maxRecDepth 100000
namespace Go.Proofs.Ytnlopklbbajlbaa.Sw
open Go Go.Conc Go.ConcN Go.RowKit
open Go.ConcR (DC0 stA smA)
/-- What it wants to store. -/
def nwX (x : MuW) (aw sv : Bool) : MuW := ⟨x.l || !x.s, x.k && !aw, x.s || (sv && x.l), if x.l || x.s then x.n + 1 else x.n⟩
section
variable {c : TC} {q : AP} {bx : Nat} {p : World → Prop} {o : Nat} {b : Bool} {i m : Nat} {r : Bool} {cs : List Frame} {b₁ : Frame} {a₁ : Act} {ops₁ : Array Oper} {i₁ : Nat} {rest₁ : List Nat} {k₁ : List Item}
set_option maxHeartbeats 16000000 in
theorem mc2L (K : KN c bx p) (hB : q.B < 60) (hm : mxA c b = ⟨c.A, o, none⟩) (hms : msA c b = ⟨c.A, o + 1, none⟩) {k₀ cN : Nat} (hcN : cN ≤ 16)
    (next : ∀ old aw sv it, WU c q bx p k₀ (aftL b cN i old aw sv it r bx m) (G (b₁.at (a₁.put ((ops₁[i₁]?).bind (·.dst)) (.tuple #[])) (.inRegion ops₁ rest₁ :: k₁)) cs)) (k : Nat) (hk : k ≤ k₀) (ih : ∀ k', k' < k → ∀ (x : MuW) (aw sv : Bool) (it : Nat) (ws : Int), x.n < 60 → (aw = true → x.k = true) → it ≤ 4 → ∀ (j1 j7 j8 j9 j10 j11 j12 j13 j14 j15 j16 j17 j18 j19 j20 j21 j22 j23 j24 j25 j26 j27 j28 j29 j30 j31 j32 j33 j34 j35 j36 j37 j38 j39 j40 j41 j42 j43 j44 j45 j46 j47 j48 j49 j50 j51 j52 j53 j54 j55 j56 j57 j58 j59 j60 j61 j62 j63 j64 j65 j66 j67 j68 j69 j70 j71 j72 j73 j74 j75 j76 j77 j78 j79 j80 j81 j82 j83 j84 j85 j86 j87 j88 j89 j90 j91 j92 j93 j94 j95 j96 j97 j98 j99 j100 j101 j102 j103 j104 j105 j106 j107 j108 j109 j110 j111 j112 j113 j114 j115 j116 j117 j118 j119 j120 j121 j122 j123 j124 j125 j126 j127 j128 j129 j130 j131 j132 j133 j134 j135 j136 j137 j138 : Value), WU c q bx p k' ⟨if x.l && !x.s then .msq else .mc2, 0, b, i, x, aw, sv, it, r, bx, m⟩ (G ((Go.Conc.base 51).at ⟨#[.pointer (some ⟨c.A, o, none⟩), j1, .int .i64 ws, .bool sv, .bool aw, .int .i64 (it : Int), .int .i32 (enc x), j7, j8, j9, j10, j11, j12, j13, j14, j15, j16, j17, j18, j19, j20, j21, j22, j23, j24, j25, j26, j27, j28, j29, j30, j31, j32, j33, j34, j35, j36, j37, j38, j39, j40, j41, j42, j43, j44, j45, j46, j47, j48, j49, j50, j51, j52, j53, j54, j55, j56, j57, j58, j59, j60, j61, j62, j63, j64, j65, j66, j67, j68, j69, j70, j71, j72, j73, j74, j75, j76, j77, j78, j79, j80, j81, j82, j83, j84, j85, j86, j87, j88, j89, j90, j91, j92, j93, j94, j95, j96, j97, j98, j99, j100, j101, j102, j103, j104, j105, j106, j107, j108, j109, j110, j111, j112, j113, j114, j115, j116, j117, j118, j119, j120, j121, j122, j123, j124, j125, j126, j127, j128, j129, j130, j131, j132, j133, j134, j135, j136, j137, j138], []⟩ [.code LL51, .inLoop LL51, .inBlock 0, .code REST51]) (b₁.at a₁ (.inRegion ops₁ (i₁ :: rest₁) :: k₁) :: cs)))
    (x : MuW) (aw sv : Bool) (it : Nat) (ws : Int) (hx : x.n < 60) : ∀ (j1 j7 j8 j9 j10 j11 j12 j13 j14 j15 j16 j17 j18 j19 j20 j21 j22 j23 j24 j25 j26 j27 j28 j29 j30 j31 j32 j33 j34 j35 j36 j37 j38 j39 j40 j41 j42 j43 j44 j45 j46 j47 j48 j49 j50 j51 j52 j53 j54 j55 j56 j57 j58 j59 j60 j61 j62 j63 j64 j65 j66 j67 j68 j69 j70 j71 j72 j73 j74 j75 j76 j77 j78 j79 j80 j81 j82 j83 j84 j85 j86 j87 j88 j89 j90 j91 j92 j93 j94 j95 j96 j97 j98 j99 j100 j101 j102 j103 j104 j105 j106 j107 j108 j109 j110 j111 j112 j113 j114 j115 j116 j117 j118 j119 j120 j121 j122 j123 j124 j125 j126 j127 j128 j129 j130 j131 j132 j133 j134 j135 j136 j137 j138 : Value),
    WU c q bx p k ⟨.mc2, 0, b, i, x, aw, sv, it, r, bx, m⟩ (G ((Go.Conc.base 51).at ⟨#[.pointer (some ⟨c.A, o, none⟩), j1, .int .i64 ws, .bool sv, .bool aw, .int .i64 (it : Int), .int .i32 (enc x), .int .i32 (enc (nwX x aw sv)), j8, j9, j10, j11, j12, j13, j14, j15, j16, j17, j18, j19, j20, j21, j22, j23, j24, j25, j26, j27, j28, j29, j30, j31, j32, j33, j34, j35, j36, j37, j38, j39, j40, j41, j42, j43, j44, j45, j46, j47, j48, j49, j50, j51, j52, j53, j54, j55, j56, j57, j58, j59, j60, j61, j62, j63, j64, j65, j66, j67, j68, j69, j70, j71, j72, j73, j74, j75, j76, j77, j78, j79, j80, j81, j82, j83, j84, j85, j86, j87, j88, j89, j90, j91, j92, j93, j94, j95, j96, j97, j98, j99, j100, j101, j102, j103, j104, j105, j106, j107, j108, j109, j110, j111, j112, j113, j114, j115, j116, j117, j118, j119, j120, j121, j122, j123, j124, j125, j126, j127, j128, j129, j130, j131, j132, j133, j134, j135, j136, j137, j138], []⟩ [.code (T51 22), .inBlock 1, .inLoop LL51, .inBlock 0, .code REST51]) (b₁.at a₁ (.inRegion ops₁ (i₁ :: rest₁) :: k₁) :: cs)) := by
  intro j1 j7 j8 j9 j10 j11 j12 j13 j14 j15 j16 j17 j18 j19 j20 j21 j22 j23 j24 j25 j26 j27 j28 j29 j30 j31 j32 j33 j34 j35 j36 j37 j38 j39 j40 j41 j42 j43 j44 j45 j46 j47 j48 j49 j50 j51 j52 j53 j54 j55 j56 j57 j58 j59 j60 j61 j62 j63 j64 j65 j66 j67 j68 j69 j70 j71 j72 j73 j74 j75 j76 j77 j78 j79 j80 j81 j82 j83 j84 j85 j86 j87 j88 j89 j90 j91 j92 j93 j94 j95 j96 j97 j98 j99 j100 j101 j102 j103 j104 j105 j106 j107 j108 j109 j110 j111 j112 j113 j114 j115 j116 j117 j118 j119 j120 j121 j122 j123 j124 j125 j126 j127 j128 j129 j130 j131 j132 j133 j134 j135 j136 j137 j138
  have hp := K.st
  refine ⟨rfl, fun j hj => ?_⟩
  simp (config := { decide := true }) only [T51, body51, findLoop, behindBlock, tailFrom, firstId, Try.f51, Option.getD_some, reduceIte, Option.some.injEq, Nat.reduceEqDiff, reduceCtorEq]
  (refine GU.ctl hp rfl (fun _ => stepG_seq) ?_; refine GU.ctl hp rfl (fun _ => stepG_region) ?_; simp only [List.size_toArray, List.length_cons, List.length_nil, Nat.reduceAdd, Nat.zero_add, List.range, List.range.loop]; (iterate 5 (refine GU.value hp _ rfl rfl (by k_ne) (fun _ => by go_simp <;> rfl) (fun _ => by simp [go_sem, *]) ?_; walk_nrm)))
  -- STOP mc2
  refine stopW K rfl rfl rfl (by simp) (by simp) (fun w s hw hs hf => ?_)
  have hcell : w.cell? ⟨c.A, o, none⟩ = some (.int .i32 (enc (s.mx b).w)) := by rw [← hm]; exact hs.cMx b
  by_cases he : (s.mx b).w = x
  · have hset := hs.setMx b (nwX x aw sv)
    rw [hm] at hset
    rw [he] at hcell
    rcases h5 : (x.l || x.s) with _ | _
    · have hl : x.l = false := by revert h5; cases x.l <;> simp
      have hss : x.s = false := by revert h5; cases x.s <;> simp
      refine ⟨⟨.me, 0, b, i, x, aw, sv, it, r, bx, m⟩, 0, s.put b ⟨nwX x aw sv, (s.mx b).sem⟩, _, _, _, .inl ⟨he, rfl, .inl ⟨hl, hss, rfl⟩⟩, Nat.zero_le _, stepG_cas_hit rfl rfl (by k_ne) rfl Try.func50 x50_n x50_b x50_x .i32 x50_f rfl rfl rfl hcell (hs.thA o), hset, Eff.set _ _ _ _ _ (.inl rfl), (aside_setCell _ _ _).size, by simp only [EvW]; rw [hm]; exact atm_rw _, by simp, ?_⟩
      clear hset hcell he hw hs hf
      refine ⟨rfl, fun j2 hj2 => ?_⟩
      walk_nrm
      (refine GU.ctl hp rfl (fun _ => stepG_region_end) ?_; refine GU.ctl hp rfl (fun _ => stepG_cond (t := true) rfl) ?_; simp only [if_true, if_false, Bool.false_eq_true, ↓reduceIte]; (iterate 2 (refine GU.ctl hp rfl (fun _ => stepG_seq) ?_)); refine GU.ctl hp rfl (fun _ => stepG_region) ?_; simp only [List.size_toArray, List.length_cons, List.length_nil, Nat.reduceAdd, Nat.zero_add, List.range, List.range.loop]; (iterate 3 (refine GU.value hp _ rfl rfl (by k_ne) (fun _ => by go_simp <;> rfl) (fun _ => by simp [go_sem, *]) ?_; walk_nrm)); refine GU.ctl hp rfl (fun _ => stepG_region_end) ?_)
      rw [d_5e _ (by omega), h5]
      simp only [Bool.not_false]
      (refine GU.ctl hp rfl (fun _ => stepG_cond (t := true) rfl) ?_; simp only [if_true, if_false, Bool.false_eq_true, ↓reduceIte]; refine GU.ctl hp rfl (fun _ => stepG_exit rfl) ?_)
      exact (restL K hB hm hms hcN next x aw sv it _ _ _ _ _ _ _ _ _ _ _ _ _ _ _ _ _ _ _ _ _ _ _ _ _ _ _ _ _ _ _ _ _ _ _ _ _ _ _ _ _ _ _ _ _ _ _ _ _ _ _ _ _ _ _ _ _ _ _ _ _ _ _ _ _ _ _ _ _ _ _ _ _ _ _ _ _ _ _ _ _ _ _ _ _ _ _ _ _ _ _ _ _ _ _ _ _ _ _ _ _ _ _ _ _ _ _ _ _ _ _ _ _ _ _ _ _ _ _ _ _ _ _ _ _ _ _ _ _ _ _ _ _ _ _ _ _ _ ).2 j2 (by omega)
    · refine ⟨⟨if ws = 0 then .mt1 else .ms1, 0, b, i, x, aw, sv, it, r, bx, m⟩, 0, s.put b ⟨nwX x aw sv, (s.mx b).sem⟩, _, _, _, .inl ⟨he, rfl, .inr ⟨by simpa using h5, by by_cases h0 : ws = 0 <;> simp [h0]⟩⟩, Nat.zero_le _, stepG_cas_hit rfl rfl (by k_ne) rfl Try.func50 x50_n x50_b x50_x .i32 x50_f rfl rfl rfl hcell (hs.thA o), hset, Eff.set _ _ _ _ _ (.inl rfl), (aside_setCell _ _ _).size, by simp only [EvW]; rw [hm]; exact atm_rw _, by show (if ws = 0 then Pc.mt1 else Pc.ms1) ≠ .quit; split <;> simp, ?_⟩
      clear hset hcell he hw hs hf
      refine ⟨rfl, fun j2 hj2 => ?_⟩
      walk_nrm
      (refine GU.ctl hp rfl (fun _ => stepG_region_end) ?_; refine GU.ctl hp rfl (fun _ => stepG_cond (t := true) rfl) ?_; simp only [if_true, if_false, Bool.false_eq_true, ↓reduceIte]; (iterate 2 (refine GU.ctl hp rfl (fun _ => stepG_seq) ?_)); refine GU.ctl hp rfl (fun _ => stepG_region) ?_; simp only [List.size_toArray, List.length_cons, List.length_nil, Nat.reduceAdd, Nat.zero_add, List.range, List.range.loop]; (iterate 3 (refine GU.value hp _ rfl rfl (by k_ne) (fun _ => by go_simp <;> rfl) (fun _ => by simp [go_sem, *]) ?_; walk_nrm)); refine GU.ctl hp rfl (fun _ => stepG_region_end) ?_)
      rw [d_5e _ (by omega), h5]
      simp only [Bool.not_true]
      (refine GU.ctl hp rfl (fun _ => stepG_cond (t := false) rfl) ?_; simp only [if_true, if_false, Bool.false_eq_true, ↓reduceIte]; refine GU.ctl hp rfl (fun _ => stepG_skip) ?_)
      exact (mt1L K hB hm hms hcN next j (by omega) (fun k' hk' => ih k' (by omega)) x aw sv it ws _ _ _ _ _ _ _ _ _ _ _ _ _ _ _ _ _ _ _ _ _ _ _ _ _ _ _ _ _ _ _ _ _ _ _ _ _ _ _ _ _ _ _ _ _ _ _ _ _ _ _ _ _ _ _ _ _ _ _ _ _ _ _ _ _ _ _ _ _ _ _ _ _ _ _ _ _ _ _ _ _ _ _ _ _ _ _ _ _ _ _ _ _ _ _ _ _ _ _ _ _ _ _ _ _ _ _ _ _ _ _ _ _ _ _ _ _ _ _ _ _ _ _ _ _ _ _ _ _ _ _ _ _ _ _ _ ).2 j2 hj2
  · refine ⟨⟨.mr3, 0, b, i, x, aw, sv, it, r, bx, m⟩, 0, s, _, _, _, .inr ⟨he, rfl, rfl⟩, Nat.zero_le _, stepG_cas_miss rfl rfl (by k_ne) rfl Try.func50 x50_n x50_b x50_x .i32 x50_f rfl rfl rfl hcell (hs.thA o) (enc_ne he), hs, Eff.refl _ _ _, rfl, by simp only [EvW]; rw [hm]; exact atm_r _ _, by simp, ?_⟩
    clear hcell he hw hs hf
    refine ⟨rfl, fun j2 hj2 => ?_⟩
    walk_nrm
    (refine GU.ctl hp rfl (fun _ => stepG_region_end) ?_; refine GU.ctl hp rfl (fun _ => stepG_cond (t := false) rfl) ?_; simp only [if_true, if_false, Bool.false_eq_true, ↓reduceIte]; refine GU.ctl hp rfl (fun _ => stepG_region) ?_; simp only [List.size_toArray, List.length_cons, List.length_nil, Nat.reduceAdd, Nat.zero_add, List.range, List.range.loop]; (iterate 3 (refine GU.value hp _ rfl rfl (by k_ne) (fun _ => by go_simp <;> rfl) (fun _ => by simp [go_sem, *]) ?_; walk_nrm)))
    -- STOP mr3
    refine stopW K rfl rfl rfl (by simp) (by simp) (fun w s hw hs hf => ?_)
    have hcell : w.cell? ⟨c.A, o, none⟩ = some (.int .i32 (enc (s.mx b).w)) := by rw [← hm]; exact hs.cMx b
    have hn : (s.mx b).w.n < 60 := by have := (hf.bnd b).1; omega
    have hlm := hf.locM
    have hit : it ≤ 4 := hlm.2.1
    have hk : aw = true → (s.mx b).w.k = true := fun e => (hf.awk (by simp [role, e])).2
    refine ⟨⟨if (s.mx b).w.l && !(s.mx b).w.s then .msq else .mc2, 0, b, i, (s.mx b).w, aw, sv, it, r, bx, m⟩, 0, s, _, _, _, ?_, Nat.zero_le _, stepG_loadQ rfl rfl (by k_ne) rfl rfl hcell q51, hs, Eff.refl _ _ _, rfl, by simp [EvW], by split <;> simp, ?_⟩
    · simp only [Step, head]
      exact ⟨by split <;> rfl, trivial⟩
    clear hcell hw hs hf hlm
    generalize (s.mx b).w = y at *
    refine ⟨rfl, fun j3 hj3 => ?_⟩
    walk_nrm
    (refine GU.value hp _ rfl rfl (by k_ne) (fun _ => by go_simp <;> rfl) (fun _ => by simp [go_sem, *]) ?_; walk_nrm; refine GU.ctl hp rfl (fun _ => stepG_region_end) ?_; refine GU.ctl hp rfl (fun _ => stepG_inBlock) ?_)
    refine GU.ctl hp rfl (fun _ => stepG_inLoop) ?_
    exact (ih j2 (by omega) y aw sv it ws hn hk hit _ _ _ _ _ _ _ _ _ _ _ _ _ _ _ _ _ _ _ _ _ _ _ _ _ _ _ _ _ _ _ _ _ _ _ _ _ _ _ _ _ _ _ _ _ _ _ _ _ _ _ _ _ _ _ _ _ _ _ _ _ _ _ _ _ _ _ _ _ _ _ _ _ _ _ _ _ _ _ _ _ _ _ _ _ _ _ _ _ _ _ _ _ _ _ _ _ _ _ _ _ _ _ _ _ _ _ _ _ _ _ _ _ _ _ _ _ _ _ _ _ _ _ _ _ _ _ _ _ _ _ _ _ ).2 j3 hj3
end
end Go.Proofs.Ytnlopklbbajlbaa.Sw
