/- frame.Stack at pictures that fit. -/
import Derived.Test.YtjdjncfpcbeedaaDoorStkM
namespace Go.Proofs.YtjdjncfpcbeedaaDoor
open Go.RowKit

/-- All pictures have as many counts. -/
theorem same_n {D : PicsD} {m : Nat} (hg : goodAll D m) (ha : alikeN D m) {i : Nat} (h0 : 0 < m) (hi : i < m) : D.n i = D.n 0 := by
  have h1 := (hg i hi).2.2.2.2.1
  have h2 := (hg 0 h0).2.2.2.2.1
  obtain ⟨a1, a2⟩ := ha i hi
  rw [a1, a2] at h1
  omega
structure Out7 (D : PicsD) (m T : Nat) (W0 H0 : Int) (k : Nat) (wr : World) (v : Value) : Prop where
  c0 : wr.cell? ⟨T, 0, none⟩ = some (.int .i64 W0)
  c1 : wr.cell? ⟨T, 1, none⟩ = some (.int .i64 H0)
  c2 : wr.cell? ⟨T, 2, none⟩ = some v
  f2 : wr.frozen? ⟨T, 2, none⟩ = false
  own : wr.ownsRow (T + 1) 3 1 v (medsL D m k).length ((medsL D m k).map (Value.int .i64))
theorem Out7.below {D : PicsD} {m T : Nat} {W0 H0 : Int} {k : Nat} {wr w' : World} {v : Value} (h : Out7 D m T W0 H0 k wr v) (hb : Below wr.heap.size wr w') : Out7 D m T W0 H0 k w' v := by
  have hl := cell_lt h.c0
  exact ⟨by rw [hb.cell (p := ⟨T, 0, none⟩) hl]; exact h.c0, by rw [hb.cell (p := ⟨T, 1, none⟩) hl]; exact h.c1, by rw [hb.cell (p := ⟨T, 2, none⟩) hl]; exact h.c2, by rw [hb.frozen (p := ⟨T, 2, none⟩) hl]; exact h.f2, own_below h.own hb⟩
theorem medsL_len0 (D : PicsD) (m k : Nat) : (medsL D m k).length = k := upto_len _ _
theorem Out7.next {D : PicsD} {m T : Nat} {W0 H0 : Int} {k : Nat} {w5 w6 : World} {v : Value} {o : Obj} {gg cap : Nat} {md : Int} (h : Out7 D m T W0 H0 k w5 v)
    (hown : w6.ownsRow (T + 1) 3 1 (.slice (some ⟨gg, 0, none⟩) (k + 1) cap) (k + 1) ((medsL D m k).map (Value.int .i64) ++ [.int .i64 md])) (hgrow : (w5.alloc o).grownBy w6 v.ownBlock)
    (hmd : medsL D m (k + 1) = medsL D m k ++ [md]) : Out7 D m T W0 H0 (k + 1) (w6.setCell ⟨T, 2, none⟩ (.slice (some ⟨gg, 0, none⟩) (k + 1) cap)) (.slice (some ⟨gg, 0, none⟩) (k + 1) cap) := by
  have hl5 := cell_lt h.c0
  have hne : v.ownBlock ≠ some T := fun e => by have := (h.own.lt _ e).1; omega
  have hb : Below w5.heap.size w5 (w5.alloc o) := (Below.refl _ _).alloc (Nat.le_refl _) _
  have hc : ∀ j, w6.cell? ⟨T, j, none⟩ = w5.cell? ⟨T, j, none⟩ := fun j => (hgrow.cell_far ⟨T, j, none⟩ (by simp; omega) (Ne.symm hne)).trans (hb.cell (p := ⟨T, j, none⟩) hl5)
  have hf : ∀ j, w6.frozen? ⟨T, j, none⟩ = w5.frozen? ⟨T, j, none⟩ := fun j => (hgrow.frozen_far ⟨T, j, none⟩ (by simp; omega) (Ne.symm hne)).trans (hb.frozen (p := ⟨T, j, none⟩) hl5)
  refine ⟨?_, ?_, World.cell?_setCell_same _ _ _ ((hc 2).trans h.c2), ?_, ?_⟩
  · rw [World.cell?_setCell_other _ _ _ _ (by simp), hc 0]; exact h.c0
  · rw [World.cell?_setCell_other _ _ _ _ (by simp), hc 1]; exact h.c1
  · rw [World.frozen?_setCell, hf 2]; exact h.f2
  · rw [medsL_len0, hmd, List.map_append]
    exact ownsRow_setCell_below hown (a := ⟨T, 2, none⟩) (show T < T + 1 by omega) _
theorem medsL_len (D : PicsD) (m k : Nat) : (medsL D m k).length = k := upto_len _ _
theorem own_row {wr : World} {base : Nat} {v : Value} {L : List Int} (h : wr.ownsRow base 3 1 v L.length (L.map (Value.int .i64))) : ∃ a cap, v = .slice a L.length cap ∧ IRow wr a L.length (fun j => L.getD j 0) := by
  rcases h.2 with ⟨e, hk0⟩ | ⟨g, cap, cur, e, _⟩
  · rw [hk0]
    exact ⟨none, 0, e, Or.inl rfl⟩
  · refine ⟨some ⟨g, 0, none⟩, cap, e, Or.inr ⟨g, 0, rfl, fun j hj => ?_⟩⟩
    have c1 := h.cells (g := g) (by rw [e]; rfl) j (.int .i64 (L.getD j 0)) (by rw [List.getElem?_map, List.getElem?_eq_getElem hj, List.getD_eq_getElem?_getD, List.getElem?_eq_getElem hj]; rfl)
    have ea : (⟨g, 0, none⟩ : Addr).add j = ⟨g, j, none⟩ := by
      unfold Addr.add
      split <;> simp_all
    rw [ea] at c1
    rw [Nat.zero_add]
    exact c1
theorem IRow.congr {w : World} {a : Option Addr} {n : Nat} {f g : Nat → Int} (h : IRow w a n f) (e : ∀ j, j < n → f j = g j) : IRow w a n g := by
  rcases h with h | ⟨b, o, e1, hc⟩
  · exact Or.inl h
  · exact Or.inr ⟨b, o, e1, fun j hj => by rw [← e j hj]; exact hc j hj⟩
theorem medsL_get (D : PicsD) (m n : Nat) {j : Nat} (hj : j < n) : (medsL D m n).getD j 0 = medL (colL D m j) := by
  unfold medsL upto
  rw [List.getD_eq_getElem?_getD, List.getElem?_map, List.getElem?_range hj]
  rfl
set_option maxRecDepth 20000 in
set_option maxHeartbeats 4000000 in
theorem stack_ok (ad : Nat → Addr) (D : PicsD) (p : Option Addr) (m cap : Nat) (w : World) (he : Errs w ad [1, 4]) (hP : Pics w p m D) (h0 : 0 < m) (h64 : m ≤ 64) (hg : goodAll D m) (ha : alikeN D m) :
    Calls Tryd.prog 15 #[.slice p m cap] w fun e w' => (∃ a' c', e = .returned (.tuple #[.agg #[.int .i64 (D.W 0), .int .i64 (D.H 0), .slice a' (D.n 0) c'], .nilIface]) ∧ IRow w' a' (D.n 0) (fun k => medL (colL D m k))) ∧ Below w.heap.size w w' := by
  obtain ⟨i0, hi, hz0, hz1, hz2⟩ := info_parts info_int'
  obtain ⟨hr, hc, hbw⟩ := stk_start w p m cap
  obtain ⟨n1, n2⟩ := area_bd (hg 0 h0)
  have HE := Lib.hid he
  have HP := Lib.hid hP
  have HG := Lib.hid hg
  have HAl := Lib.hid ha
  have HNn := Lib.hid (fun i (h : i < m) => same_n hg ha h0 h)
  clear he hP hg ha
  have d1 : decide (64 < (m : Int)) = false := by simp; omega
  have d2 : ((m : Int) == 0) = false := by simp; omega
  go_enter Tryd.func15, Tryd.ntmps15
  go_wp2_with fail
  generalize (w.alloc (Obj.cells #[.slice p m cap] 37)).alloc (Obj.cells #[.int .i64 0, .int .i64 0, .slice none 0 0] 31) = w1 at *
  have HR1 := Lib.hid hr
  have HB1 := Lib.hid hbw
  have HC1 := Lib.hid hc
  have hcl := cell_lt hc
  clear hr hbw hc
  go_wp2
  go_loopw [24] (fun i wr => ∃ k : Nat, k ≤ m ∧ i = .int .i64 k ∧ Hid (Below w1.heap.size w1 wr)) (fun i _ => m - (intOf i).toNat)
  case atStart => exact ⟨0, Nat.zero_le _, rfl, Lib.hid (Below.refl _ _)⟩
  case round =>
    obtain ⟨k, hk, rfl, hw⟩ := hrel
    have HBr := Lib.hid (below_step HB1.out hw.out)
    by_cases hlt : k < m
    · obtain ⟨lb, lo, rfl, hlb, hpa, _, _, hn⟩ := (HP.out.below HBr.out).at hlt
      obtain ⟨p0, p1, p2, hrow⟩ := hpa
      have hba : ∀ o, Below wr.heap.size wr (wr.alloc o) := fun o => (Below.refl _ _).alloc (Nat.le_refl _) _
      have HV := Lib.hid (fun o => validP_ok ad (D.W k) (D.H k) (D.f k) (D.a k) (D.n k) (D.c k) (wr.alloc o) ((HE.out.below HBr.out).below (hba o)) (hrow.below (hba o)) (HG.out k hlt))
      have HA := Lib.hid (fun o => below_step hw.out (hba o))
      clear hrow hba
      go_wp2_with fail
      refine (HV.out _).mono ?_; rintro e w2 ⟨rfl, hb2⟩
      have HW2 := Lib.hid (below_step (HA.out _) hb2)
      clear hb2 HV HA p0 p1 p2 hw
      go_wp2
      go_roundw
      case rel => exact ⟨k + 1, by omega, by go_num, HW2⟩
      case measure => simp [intOf]; omega
    · obtain rfl : k = m := by omega
      have hcw : wr.cell? ⟨w.heap.size, 0, none⟩ = some (.slice p k cap) := by rw [hw.out.cell (p := ⟨w.heap.size, 0, none⟩) hcl]; exact HC1.out
      have HCt := Lib.hid (containsP_any D p k cap w.heap.size (by omega) wr hcw (HP.out.below HBr.out))
      go_wp2_with fail
      refine HCt.out.mono ?_; rintro e w2 ⟨⟨b, rfl, hb⟩, hb2⟩
      obtain rfl : b = false := hb.2 HAl.out
      have hw2 := below_step hw.out hb2
      have HR2 := Lib.hid (HR1.out.below hw2)
      have HB2 := Lib.hid (below_step HB1.out hw2)
      have HC2 : Hid (w2.cell? ⟨w.heap.size, 0, none⟩ = some (.slice p k cap)) := Lib.hid (by rw [hw2.cell (p := ⟨w.heap.size, 0, none⟩) hcl]; exact HC1.out)
      clear hb hb2 HCt hcw hw hw2 HBr HC1 HR1
      obtain ⟨lb, lo, rfl, hlb, hpa, _⟩ := (HP.out.below HB2.out).at h0
      rw [Nat.zero_mul, Nat.add_zero] at hpa
      have HPA := Lib.hid hpa
      have hc2 := HC2.out
      have hcl2 := cell_lt hc2
      have HSg : Hid (∀ W', Below w2.heap.size w2 W' → W'.cell? ⟨w.heap.size, 0, none⟩ = some (.slice (some ⟨lb, lo, none⟩) k cap) ∧ W'.cell? ⟨lb, lo, none⟩ = some (.int .i64 (D.W 0)) ∧ W'.cell? ⟨lb, lo + 1, none⟩ = some (.int .i64 (D.H 0)) ∧ W'.cell? ⟨lb, lo + 2, none⟩ = some (.slice (D.a 0) (D.n 0) (D.c 0))) := Lib.hid (fun W' hb => ⟨by rw [hb.cell (p := ⟨w.heap.size, 0, none⟩) hcl2]; exact HC2.out, by rw [hb.cell (p := ⟨lb, lo, none⟩) hlb]; exact HPA.out.1, by rw [hb.cell (p := ⟨lb, lo + 1, none⟩) hlb]; exact HPA.out.2.1, by rw [hb.cell (p := ⟨lb, lo + 2, none⟩) hlb]; exact HPA.out.2.2.1⟩)
      obtain ⟨_, p0, p1, p2⟩ := HSg.out w2 (Below.refl _ _)
      clear hpa
      go_wp2
      go_region_held3 (fun W' => W'.cell? ⟨w.heap.size, 0, none⟩ = some (.slice (some ⟨lb, lo, none⟩) k cap) ∧ W'.cell? ⟨lb, lo, none⟩ = some (.int .i64 (D.W 0)) ∧ W'.cell? ⟨lb, lo + 1, none⟩ = some (.int .i64 (D.H 0)) ∧ W'.cell? ⟨lb, lo + 2, none⟩ = some (.slice (D.a 0) (D.n 0) (D.c 0)))
        (exact HSg.out _ (by repeat' first | exact Below.refl _ _ | apply Below.drew | (refine Below.setCell ?_ (by simp) _) | (refine Below.alloc ?_ (by simp) _)))
        (fail)
      have h7 : Hid (Below w2.heap.size w2 (w2.alloc (Obj.cells #[.int .i64 (D.W 0), .int .i64 (D.H 0), .slice none 0 0] 31)).drew ∧ Out7 D k w2.heap.size (D.W 0) (D.H 0) 0 (w2.alloc (Obj.cells #[.int .i64 (D.W 0), .int .i64 (D.H 0), .slice none 0 0] 31)).drew (.slice none 0 0)) := Lib.hid ⟨((Below.refl _ _).alloc (Nat.le_refl _) _).drew, ⟨by simp, by simp, by simp, by simp, World.ownsRow_nil _ _ _ _⟩⟩
      generalize (w2.alloc (Obj.cells #[.int .i64 (D.W 0), .int .i64 (D.H 0), .slice none 0 0] 31)).drew = w7 at *
      obtain ⟨_, q0, q1, q2⟩ := HSg.out w7 h7.out.1
      have HN0 := Lib.hid HPA.out.2.2.2
      clear p0 p1 p2 hc2 HPA HC2
      go_wp2
      go_loopw [54] (fun t wr => ∃ i : Nat, i ≤ D.n 0 ∧ t = .int .i64 i ∧ Hid (Below w2.heap.size w2 wr ∧ ∃ v, Out7 D k w2.heap.size (D.W 0) (D.H 0) i wr v)) (fun t _ => D.n 0 - (intOf t).toNat)
      case atStart => exact ⟨0, Nat.zero_le _, rfl, Lib.hid ⟨h7.out.1, _, h7.out.2⟩⟩
      case round =>
        clear q0 q1 q2 h7
        obtain ⟨i, hin, rfl, hO⟩ := hrel
        generalize wr = wo at *
        obtain ⟨hbw, v7, ho⟩ := hO.out
        have HW := Lib.hid hbw
        have HO := Lib.hid ho
        obtain ⟨q0, q1, q2, q3⟩ := HSg.out wo hbw
        clear hbw ho hO
        by_cases hit : i < D.n 0
        · go_wp2
          go_loopw [9, 59] (fun v t wi => ∃ j : Nat, j ≤ k ∧ t = .int .i64 j ∧ Hid (Gath wo v (upto (fun x => D.f x i) j) wi)) (fun _ t _ => k - (intOf t).toNat)
          case atStart => exact ⟨0, Nat.zero_le _, rfl, Lib.hid (Gath.nil wo)⟩
          case round =>
            obtain ⟨j, hjk, rfl, hG⟩ := hrel
            have HBi := Lib.hid (below_step HB2.out (below_step HW.out hG.out.2))
            by_cases hjt : j < k
            · obtain ⟨lb', lo', e', _, hpa, _⟩ := (HP.out.below HBi.out).at hjt
              cases e'
              obtain ⟨p0, p1, p2, hrow⟩ := hpa
              rw [HNn.out j hjt] at p2 hrow
              obtain ⟨ba, oa, e2, hbal, ck⟩ := hrow.at hit
              rw [e2] at p2
              have hlen : (upto (fun x => D.f x i) j).length ≤ 64 := by rw [upto_len]; omega
              have HU := Lib.hid (upto_succ (fun x => D.f x i) j)
              have HG2 := Lib.hid (fun o => hG.out.below ((Below.refl wr.heap.size wr).alloc (Nat.le_refl _) o))
              have hos := Lib.hid (fun o o2 => World.ownsRow.alloc (HG2.out o).1 o2)
              have hszi := hG.out.2.size
              clear hrow hG
              generalize D.f j i = x at *
              generalize upto (fun x => D.f x i) j = Lj at *
              go_wp2_with (first
                | (at_builtin; refine wpList_append_own_at _ rfl _ _ 29 rfl wo.heap.size 3 i0 (.int .i64 0) 1 8 Tryd.underlying29 hi hz0 hz1 hz2 rfl (by decide) u9 Lj.length (Lj.map (Value.int .i64)) rfl (hos.out _ _) ⟨wr.heap.size + 1, 0, none⟩ 1 1 [.int .i64 x] rfl rfl ?c1 ?c2 ?c3 ?c4 ?c5 ?_)
                | fail)
              case c1 =>
                intro j' u hj'
                match j', hj' with
                | 0, hj' => simp at hj'; subst hj'; simp [Addr.add]
              case c2 =>
                intro u hu
                simp only [List.mem_cons, List.not_mem_nil, or_false] at hu
                subst hu; rfl
              case c3 => unfold maxLen; omega
              case c4 => omega
              case c5 => simp; omega
              intro v' w4 hown hgrow _ _
              have R := Lib.hid (Gath.step (HG2.out _) hown hgrow)
              clear hown hgrow hos HG2 p0 p1 p2 ck
              go_wp2
              go_roundw
              case rel => exact ⟨j + 1, by omega, by go_num, Lib.hid (by rw [HU.out]; exact R.out)⟩
              case measure => simp [intOf]; omega
            · obtain rfl : j = k := by omega
              obtain ⟨ga, gc, rfl, hrow⟩ := hG.out.row
              have hcl : colL D j i = upto (fun x => D.f x i) j := rfl
              rw [← hcl] at hrow hG ⊢
              rw [colL_len] at hrow ⊢
              have HMe := Lib.hid (fun W2 (hb : Below wr.heap.size wr W2) => median_any (fun x => (colL D j i).getD x 0) ga j gc h0 (by omega) W2 (hrow.below hb))
              have e3 : upto (fun x => (colL D j i).getD x 0) j = colL D j i := by
                have := upto_list (colL D j i)
                rw [colL_len] at this
                exact this
              rw [e3] at HMe
              have HO2 := Lib.hid (HO.out.below hG.out.2)
              have HW2 := Lib.hid (below_step HW.out hG.out.2)
              have c2 := HO2.out.c2
              have f2 := HO2.out.f2
              have hMS : Hid (medsL D j (i + 1) = medsL D j i ++ [medL (colL D j i)]) := Lib.hid (upto_succ _ _)
              have hln := medsL_len D j i
              clear hcl hrow hG e3 HO HW
              have hne : v7.ownBlock ≠ some w2.heap.size := fun e => by have := (HO2.out.own.lt _ e).1; omega
              have own7 := HO2.out.own
              obtain ⟨md, hmd⟩ : ∃ md, medL (colL D j i) = md := ⟨_, rfl⟩
              rw [hmd] at HMe hMS
              clear hmd
              generalize hL7 : medsL D j i = L7 at *
              have HL7 := Lib.hid hL7
              clear hL7
              go_wp2
              have HC5 := Lib.hid (fun W2 (hb : Below wr.heap.size wr W2) => HO2.out.below hb)
              have hTl := cell_lt c2
              go_region_law (first
                | (go_simp; go_at_call 37; with_reducible refine (HMe.out wr.drew (Below.refl _ _).drew).mono ?_; rintro e w5 ⟨rfl, hb5⟩; have c5 := (HC5.out w5 (below_step (Below.refl _ _).drew hb5)).c2; have f5 := (HC5.out w5 (below_step (Below.refl _ _).drew hb5)).f2; have hl5 := cell_lt c5)
                | (refine step_append_lies _ (by rfl) _ _ _ (by rfl) (w2.heap.size + 1) 3 i0 _ 1 8 Tryd.underlying29 hi hz0 hz1 hz2 rfl (by omega) v7 L7.length (L7.map (Value.int .i64)) (by rfl) ((own_below own7 (below_step (Below.refl _ _).drew hb5)).alloc _) ⟨w5.heap.size, 0, none⟩ 1 1 [.int .i64 md] (by rfl) (by rfl) (World.news_of_block (cs := #[.int .i64 md]) (t := 3) (fr := (0, 0)) (heap_alloc_new w5 _)) (by simp [Value.oneCell']) (by omega) (by unfold maxLen; omega) (by omega) (by simp; omega) (w5.heap.size + 1) (by simp) ?_; intro gg cap6 w6 hown hgrow hat hlt; have c6 : w6.cell? ⟨w2.heap.size, 2, none⟩ = some v7 := ((hgrow.cell_far (a := ⟨w2.heap.size, 2, none⟩) (by simp; omega) (Ne.symm hne)).trans ((((Below.refl w5.heap.size w5).alloc (Nat.le_refl _) _).cell (p := ⟨w2.heap.size, 2, none⟩) hl5).trans c5)); have f6 : w6.frozen? ⟨w2.heap.size, 2, none⟩ = false := ((hgrow.frozen_far (a := ⟨w2.heap.size, 2, none⟩) (by simp; omega) (Ne.symm hne)).trans ((((Below.refl w5.heap.size w5).alloc (Nat.le_refl _) _).frozen (p := ⟨w2.heap.size, 2, none⟩) hl5).trans f5))))
              all_goals
                have hb5w := below_step (Below.refl _ _).drew hb5
                have B5 := below_step HW2.out hb5w
                have hlt5 := (own_below own7 hb5w).lt
                have B6 : Below w2.heap.size w2 w6 := (B5.alloc B5.size _).grown hgrow (by simp; omega) (fun x e => by have := (hlt5 x e).1; omega)
                obtain rfl := HL7.out
                rw [hln] at hown
                have HNx := Lib.hid ((HC5.out w5 hb5w).next hown hgrow hMS.out)
                have HB6 := Lib.hid (B6.setCell (p := ⟨w2.heap.size, 2, none⟩) (Nat.le_refl _) (.slice (some ⟨gg, 0, none⟩) (i + 1) cap6))
                clear hown hgrow hat hlt B5 B6 hlt5 hb5 hb5w c5 f5 c6 f6 HC5 HMe HO2 HW2 hMS own7 hne
                go_wp2
                go_roundw
                case rel => exact ⟨i + 1, by omega, by go_num, Lib.hid ⟨HB6.out, _, HNx.out⟩⟩
                case measure => simp [intOf]; omega
        · obtain rfl : i = D.n 0 := by omega
          have hR := HR2.out.below HW.out
          have y0 := hR.r0
          have y1 := hR.r1
          have y2 := hR.r2
          have z0 := hR.f0
          have z1 := hR.f1
          have z2 := hR.f2
          have hRT : w.heap.size + 1 < w2.heap.size := HR2.out.sz
          have t0 := HO.out.c0
          have t1 := HO.out.c1
          have t2 := HO.out.c2
          have hown := ownsRow_setCell_below (ownsRow_setCell_below (ownsRow_setCell_below HO.out.own (a := ⟨w.heap.size + 1, 0, none⟩) (show w.heap.size + 1 < w2.heap.size + 1 by omega) (.int .i64 (D.W 0))) (a := ⟨w.heap.size + 1, 1, none⟩) (show w.heap.size + 1 < w2.heap.size + 1 by omega) (.int .i64 (D.H 0))) (a := ⟨w.heap.size + 1, 2, none⟩) (show w.heap.size + 1 < w2.heap.size + 1 by omega) v7
          obtain ⟨a', c', rfl, hrow⟩ := own_row hown
          rw [medsL_len] at hrow hown t2
          have HROW := Lib.hid (hrow.congr (fun j hj => medsL_get D k (D.n 0) hj))
          have HBf := Lib.hid (below_step HB2.out HW.out)
          have hne1 : ¬ w.heap.size + 1 = w2.heap.size := by omega
          have hne2 : ¬ w2.heap.size = w.heap.size + 1 := by omega
          clear hrow hown hR q0 q1 q2 q3 HO HW
          go_wp2
          refine bodyPost_ret (v := .tuple #[.agg #[.int .i64 (D.W 0), .int .i64 (D.H 0), .slice a' (D.n 0) c'], .nilIface]) ?_ rfl ?_
          · simp [results, Tryd.results15, go_sem, y0, y1, y2]
          · exact ⟨⟨a', c', rfl, HROW.out⟩, by repeat' first | exact HBf.out | apply Below.drew | (refine Below.setCell ?_ (by simp) _)⟩
end Go.Proofs.YtjdjncfpcbeedaaDoor
