/- FrameStacks of package meridianlaw4: the law. -/
import Derived.Test.YtjdjncfpcbeedaaDoorStkRO
import Derived.Test.YtjdjncfpcbeedaaDoorCoded4
namespace Go.Proofs.YtjdjncfpcbeedaaDoor
open Go.RowKit

theorem first_bad (D : PicsD) : ∀ m, goodAll D m ∨ ∃ i, i < m ∧ goodAll D i ∧ ¬ picG (D.W i) (D.H i) (D.n i) (D.f i)
  | 0 => Or.inl (fun i hi => by omega)
  | m + 1 => by
    rcases first_bad D m with h | ⟨i, h1, h2, h3⟩
    · by_cases g : picG (D.W m) (D.H m) (D.n m) (D.f m)
      · refine Or.inl (fun i hi => ?_)
        by_cases c : i = m
        · subst c; exact g
        · exact h i (by omega)
      · exact Or.inr ⟨m, by omega, h, g⟩
    · exact Or.inr ⟨i, by omega, h2, h3⟩
theorem picB_lt3 (W H : Int) : picB W H < 10 := by unfold picB; split <;> omega
theorem stk_cases (D : PicsD) (m : Nat) : (∃ er, stkB D m er ∧ er < 10) ∨ (0 < m ∧ m ≤ 64 ∧ goodAll D m ∧ alikeN D m) := by
  by_cases h1 : 64 < m
  · exact Or.inl ⟨1, Or.inl ⟨h1, rfl⟩, by decide⟩
  by_cases h2 : m = 0
  · exact Or.inl ⟨4, Or.inr (Or.inl ⟨h2, rfl⟩), by decide⟩
  rcases first_bad D m with h | ⟨i, i1, i2, i3⟩
  · by_cases ha : alikeN D m
    · exact Or.inr ⟨by omega, by omega, h, ha⟩
    · exact Or.inl ⟨4, Or.inr (Or.inr ⟨by omega, by omega, Or.inr ⟨h, ha, rfl⟩⟩), by decide⟩
  · exact Or.inl ⟨picB (D.W i) (D.H i), Or.inr (Or.inr ⟨by omega, by omega, Or.inl ⟨i, i1, i2, i3, rfl⟩⟩), picB_lt3 _ _⟩
/-- Both sides' stacks. -/
theorem stk_pair (ad : Nat → Addr) (D : PicsD) (p : Option Addr) (m cap : Nat) (hm : m ≤ 9223372036854775807) : ∃ (W1 H1 : Int) (n1 : Nat) (F : Nat → Int) (ev : Value) (e0 : Int),
    (∀ w, Sents w ad → Pics w p m D → Calls Tryd.prog 15 #[.slice p m cap] w fun e w' => (∃ a c, e = .returned (.tuple #[.agg #[.int .i64 W1, .int .i64 H1, .slice a n1 c], ev]) ∧ IRow w' a n1 F) ∧ Below w.heap.size w w') ∧
    (∀ w, Pics w p m D → Calls Tryd.prog 16 #[.slice p m cap] w fun e w' => (∃ a c, e = .returned (.tuple #[.slice a n1 c, .int .i64 e0]) ∧ IRow w' a n1 F) ∧ Below w.heap.size w w') ∧
    (∀ w, Sents w ad → Calls Tryd.prog 12 #[ev, .int .i64 e0] w fun e w' => e = .returned (.bool true) ∧ Below w.heap.size w w') ∧
    n1 ≤ 1000000 ∧ (0 < e0 ∨ (e0 = 0 ∧ 0 < m ∧ W1 = D.W 0 ∧ H1 = D.H 0)) := by
  rcases stk_cases D m with ⟨er, hB, he⟩ | ⟨h0, h64, hg, ha⟩
  · refine ⟨0, 0, 0, fun _ => 0, errV ad er, ((er + 1 : Nat) : Int), fun w hE hP => ?_, fun w hP => ?_, fun w hE => coded4_err ad er _ he (by omega) w hE, by omega, Or.inl (by omega)⟩
    · exact (stack_bad ad D p m cap er w (hE.errs _ (by decide)) hP hB hm).mono fun e w' ⟨h1, h2⟩ => ⟨⟨none, 0, h1, Or.inl rfl⟩, h2⟩
    · exact (stackOf_bad D p m cap er w hP hB hm).mono fun e w' ⟨h1, h2⟩ => ⟨⟨none, 0, h1, Or.inl rfl⟩, h2⟩
  · have hn := area_bd (hg 0 h0)
    exact ⟨D.W 0, D.H 0, D.n 0, fun k => medL (colL D m k), .nilIface, 0, fun w hE hP => stack_ok ad D p m cap w (hE.errs _ (by decide)) hP h0 h64 hg ha, fun w hP => stackOf_ok D p m cap w hP h0 h64 hg ha, fun w _ => coded4_nil w, by omega, Or.inr ⟨rfl, h0, rfl, rfl⟩⟩
set_option maxRecDepth 20000 in
set_option maxHeartbeats 4000000 in
theorem frameStacks_any (ad : Nat → Addr) {w : World} (D : PicsD) (p : Option Addr) (m cap : Nat) (hm : m ≤ 9223372036854775807) (hP : Pics w p m D) (x : Int) (_ : In64 x) (y : Int) (_ : In64 y) (hE : Sents w ad) :
    Calls Tryd.prog 4 #[.slice p m cap, .int .i64 x, .int .i64 y] w fun e w' => e = .returned (.bool true) ∧ Below w.heap.size w w' := by
  have HF := Lib.hid (framed_any ad w (hE.errs _ (by decide)))
  have HSm := Lib.hid (fun W (h : Below w.heap.size w W) => smallAll_any p m cap hm D W (hP.below h))
  obtain ⟨W1, H1, n1, F, ev, e0, sP, sR, sC, hn1, sO⟩ := stk_pair ad D p m cap hm
  have SP := Lib.hid sP
  have SR := Lib.hid sR
  have SC := Lib.hid sC
  have SO := Lib.hid sO
  have HE := Lib.hid hE
  have HP := Lib.hid hP
  have HI := Lib.hid (fun a b ca cb W h1 h2 => sameInts_any F F a b n1 ca cb hn1 W h1 h2 (fun _ _ => rfl))
  clear hE hP sP sR sC sO
  go_enter Tryd.func4, Tryd.ntmps4
  go_wp2_with fail
  refine HF.out.mono ?_; rintro e w1 ⟨rfl, hb1⟩
  have B1 := Lib.hid hb1
  clear hb1 HF
  go_wp2_with fail
  refine (HSm.out _ B1.out).mono ?_; rintro e w2 ⟨⟨s, rfl, hs⟩, rfl⟩
  cases s with
  | false =>
    clear hs
    go_wp2
    go_ret
    exact ⟨rfl, B1.out⟩
  | true =>
    have h70 := hs rfl
    clear hs HSm
    go_wp2_with fail
    refine (SP.out _ (HE.out.below B1.out) (HP.out.below B1.out)).mono ?_; rintro e w3 ⟨⟨a1, c1, rfl, hr1⟩, hb3⟩
    have B3 := Lib.hid (below_step B1.out hb3)
    have R1 := Lib.hid hr1
    have A3 : Hid (∀ o, Below w3.heap.size w3 (w3.alloc o)) := Lib.hid (fun o => (Below.refl _ _).alloc (Nat.le_refl _) _)
    clear hb3 hr1 SP B1
    go_wp2_with fail
    refine (SR.out _ (HP.out.below (below_step B3.out (A3.out _)))).mono ?_; rintro e w4 ⟨⟨a2, c2, rfl, hr2⟩, hb4⟩
    have k0 : w4.cell? ⟨w3.heap.size, 0, none⟩ = some (.int .i64 W1) := by rw [hb4.cell (p := ⟨w3.heap.size, 0, none⟩) (by simp)]; simp
    have k1 : w4.cell? ⟨w3.heap.size, 1, none⟩ = some (.int .i64 H1) := by rw [hb4.cell (p := ⟨w3.heap.size, 1, none⟩) (by simp)]; simp
    have k2 : w4.cell? ⟨w3.heap.size, 2, none⟩ = some (.slice a1 n1 c1) := by rw [hb4.cell (p := ⟨w3.heap.size, 2, none⟩) (by simp)]; simp
    have D4 := Lib.hid (below_step (A3.out _) hb4)
    have B4 := Lib.hid (below_step B3.out D4.out)
    have R2 := Lib.hid hr2
    have R14 := Lib.hid (R1.out.below D4.out)
    have hl4 := cell_lt k0
    have HK := Lib.hid (fun W' (hb : Below w4.heap.size w4 W') => (show W'.cell? ⟨w3.heap.size, 0, none⟩ = some (.int .i64 W1) ∧ W'.cell? ⟨w3.heap.size, 1, none⟩ = some (.int .i64 H1) ∧ W'.cell? ⟨w3.heap.size, 2, none⟩ = some (.slice a1 n1 c1) from ⟨by rw [hb.cell (p := ⟨w3.heap.size, 0, none⟩) hl4]; exact k0, by rw [hb.cell (p := ⟨w3.heap.size, 1, none⟩) hl4]; exact k1, by rw [hb.cell (p := ⟨w3.heap.size, 2, none⟩) hl4]; exact k2⟩))
    clear hb4 hr2 SR B3 A3 D4 R1 k0 k1 k2
    go_wp2_with fail
    refine (SC.out _ (HE.out.below B4.out)).mono ?_; rintro e w5 ⟨rfl, hb5⟩
    have C5 := Lib.hid hb5
    have B5 := Lib.hid (below_step B4.out hb5)
    obtain ⟨k0, k1, k2⟩ := HK.out _ hb5
    clear hb5 SC
    go_wp2_with fail
    refine (HI.out _ _ _ _ _ (R14.out.below C5.out) (R2.out.below C5.out)).mono ?_; rintro e w6 ⟨rfl, hb6⟩
    have C6 := Lib.hid (below_step C5.out hb6)
    have B6 := Lib.hid (below_step B5.out hb6)
    clear hb6 HI R14 R2 C5 B5 B4 k0 k1 k2
    obtain ⟨k0, k1, k2⟩ := HK.out _ C6.out
    rcases SO.out with he | ⟨rfl, h0, rfl, rfl⟩
    · have e1 : (e0 == 0) = false := by simp; omega
      clear SO HK C6
      go_wp2
      go_quiet (fail)
      have HQ0 := Lib.hid (below_drewN (Below.refl w6.heap.size w6) nq)
      clear k0 k1 k2
      go_wp2
      go_loopw [15] (fun i wr => ∃ k : Nat, k ≤ m ∧ i = .int .i64 k ∧ Hid (Below w6.heap.size w6 wr)) (fun i _ => m - (intOf i).toNat)
      case atStart => exact ⟨0, Nat.zero_le _, rfl, HQ0⟩
      case round =>
        obtain ⟨k, hk, rfl, hw⟩ := hrel
        have HBr := Lib.hid (below_step B6.out hw.out)
        have HWr := hw
        by_cases hlt : k < m
        · obtain ⟨lb, lo, e', hlb, hpa, _, _, hn⟩ := (HP.out.below HBr.out).at hlt
          subst e'
          have HPA := Lib.hid hpa
          clear hpa
          by_cases g : picG (D.W k) (D.H k) (D.n k) (D.f k)
          · by_cases xr : 0 ≤ x ∧ x < D.W k ∧ 0 ≤ y ∧ y < D.H k
            · have hpos : 0 ≤ y * D.W k + x := by
                have := Int.mul_nonneg xr.2.2.1 (show 0 ≤ D.W k by omega)
                omega
              obtain ⟨ix, hix⟩ : ∃ ix : Nat, y * D.W k + x = ix := ⟨(y * D.W k + x).toNat, by omega⟩
              have hin : ix < D.n k := by
                obtain ⟨_, _, _, _, c4, _⟩ := g
                have h1 := Int.mul_le_mul_of_nonneg_right (show y + 1 ≤ D.H k by omega) (show 0 ≤ D.W k by omega)
                rw [Int.add_mul, Int.one_mul, Int.mul_comm (D.H k)] at h1
                omega
              have hn2 := (area_bd g).2
              obtain ⟨ba, oa, ea, hbal, _⟩ := HPA.out.2.2.2.at hin
              have HCK : Hid (∀ W2, Below wr.heap.size wr W2 → W2.cell? ⟨ba, oa + ix, none⟩ = some (.int .i64 (D.f k ix))) := Lib.hid (fun W2 hb => by
                obtain ⟨b', o', e2, _, hc⟩ := (HPA.out.below hb).2.2.2.at hin
                rw [ea] at e2
                cases e2
                exact hc)
              have HPE := Lib.hid (picE_ok lb (lo + k * 3) (D.W k) (D.H k) (D.f k) (D.a k) (D.n k) (D.c k) wr HPA.out g)
              have HVa := Lib.hid (fun W2 (hb : Below wr.heap.size wr W2) => validP_ok ad (D.W k) (D.H k) (D.f k) (D.a k) (D.n k) (D.c k) W2 ((HE.out.below (below_step HBr.out hb)).errs _ (by decide)) (HPA.out.below hb).2.2.2 g)
              have HCo := Lib.hid (fun W2 (hb : Below wr.heap.size wr W2) => coded4_nil W2)
              have HAt := Lib.hid (fun W2 (hb : Below wr.heap.size wr W2) => at_in ad (D.W k) (D.H k) x y (D.f k) (D.a k) (D.n k) (D.c k) ix W2 ((HE.out.below (below_step HBr.out hb)).errs _ (by decide)) (HPA.out.below hb).2.2.2 g xr.1 xr.2.1 xr.2.2.1 xr.2.2.2 hix)
              have HPX := Lib.hid (fun W2 (hb : Below wr.heap.size wr W2) => (HPA.out.below hb))
              obtain ⟨q0, q1, q2, _⟩ := HPA.out
              clear hw
              have HEA := Lib.hid ea
              clear ea g
              go_wp2_with fail
              refine HPE.out.mono ?_; rintro e w7 ⟨rfl, hb7⟩
              have C7 := Lib.hid hb7
              obtain ⟨q0, q1, q2, _⟩ := HPX.out _ hb7
              clear hb7 HPE
              go_wp2_with fail
              refine (HVa.out _ C7.out).mono ?_; rintro e w8 ⟨rfl, hb8⟩
              have C8 := Lib.hid (below_step C7.out hb8)
              clear hb8 HVa C7 q0 q1 q2
              go_wp2_with fail
              refine (HCo.out _ C8.out).mono ?_; rintro e w9 ⟨rfl, hb9⟩
              have C9 := Lib.hid (below_step C8.out hb9)
              obtain ⟨q0, q1, q2, _⟩ := HPX.out _ C9.out
              clear hb9 HCo C8
              go_wp2_with fail
              refine (HAt.out _ C9.out).mono ?_; rintro e w10 ⟨rfl, hb10⟩
              have C10 := Lib.hid (below_step C9.out hb10)
              obtain ⟨q0, q1, q2, _⟩ := HPX.out _ C10.out
              have ck := HCK.out _ C10.out
              rw [HEA.out] at q2
              have HW2 := Lib.hid (below_step HWr.out C10.out)
              clear hb10 HAt C9 C10 HPX HPA HWr
              obtain ⟨x1, x2, x3, x4⟩ := xr
              have dx1 : decide (0 ≤ x) = true := by simpa using x1
              have dx2 : decide (0 ≤ y) = true := by simpa using x3
              have dx3 : decide (x < D.W k) = true := by simpa using x2
              have dx4 : decide (y < D.H k) = true := by simpa using x4
              have dn : (D.f k ix != D.f k ix) = false := by simp
              have hyw : 0 ≤ y * D.W k ∧ y * D.W k ≤ 65536 := ⟨Int.mul_nonneg x3 (by omega), by omega⟩
              have ew3 : IntKind.i64.wrap (ix : Int) = (ix : Int) := IntWalk.i64_in _ (by omega)
              have ew1 : IntKind.i64.wrap (y * D.W k) = y * D.W k := IntWalk.i64_in _ (by omega)
              have ew2 : IntKind.i64.wrap (y * D.W k + x) = (ix : Int) := by rw [hix]; exact ew3
              have hi0 : (0 : Int) ≤ (ix : Int) := by omega
              have hi1 : (ix : Int) < (D.n k : Int) := by omega
              clear HCK HEA
              generalize D.f k ix = z at *
              generalize D.W k = Wk at *
              generalize D.H k = Hk at *
              go_wp2
              go_quiet (fail)
              go_wp2
              go_roundw
              case rel => exact ⟨k + 1, by omega, by go_num, Lib.hid (below_drewN HW2.out _)⟩
              case measure => simp [intOf]; omega
            · have hx : Hid (¬ (0 ≤ x ∧ x < D.W k ∧ 0 ≤ y ∧ y < D.H k)) := Lib.hid xr
              have HPE := Lib.hid (picE_ok lb (lo + k * 3) (D.W k) (D.H k) (D.f k) (D.a k) (D.n k) (D.c k) wr HPA.out g)
              have HVa := Lib.hid (fun W2 (hb : Below wr.heap.size wr W2) => validP_ok ad (D.W k) (D.H k) (D.f k) (D.a k) (D.n k) (D.c k) W2 ((HE.out.below (below_step HBr.out hb)).errs _ (by decide)) (HPA.out.below hb).2.2.2 g)
              have HCo := Lib.hid (fun W2 (hb : Below wr.heap.size wr W2) => coded4_nil W2)
              have HAt := Lib.hid (fun W2 (hb : Below wr.heap.size wr W2) => at_out ad (D.W k) (D.H k) x y (D.f k) (D.a k) (D.n k) (D.c k) W2 ((HE.out.below (below_step HBr.out hb)).errs _ (by decide)) (HPA.out.below hb).2.2.2 g xr)
              have HPX := Lib.hid (fun W2 (hb : Below wr.heap.size wr W2) => (HPA.out.below hb))
              obtain ⟨q0, q1, q2, _⟩ := HPA.out
              clear hw
              clear g xr
              go_wp2_with fail
              refine HPE.out.mono ?_; rintro e w7 ⟨rfl, hb7⟩
              have C7 := Lib.hid hb7
              obtain ⟨q0, q1, q2, _⟩ := HPX.out _ hb7
              clear hb7 HPE
              go_wp2_with fail
              refine (HVa.out _ C7.out).mono ?_; rintro e w8 ⟨rfl, hb8⟩
              have C8 := Lib.hid (below_step C7.out hb8)
              clear hb8 HVa C7 q0 q1 q2
              go_wp2_with fail
              refine (HCo.out _ C8.out).mono ?_; rintro e w9 ⟨rfl, hb9⟩
              have C9 := Lib.hid (below_step C8.out hb9)
              obtain ⟨q0, q1, q2, _⟩ := HPX.out _ C9.out
              clear hb9 HCo C8
              go_wp2_with fail
              refine (HAt.out _ C9.out).mono ?_; rintro e w10 ⟨rfl, hb10⟩
              have C10 := Lib.hid (below_step C9.out hb10)
              obtain ⟨q0, q1, q2, _⟩ := HPX.out _ C10.out
              have HW2 := Lib.hid (below_step HWr.out C10.out)
              clear hb10 HAt C9 C10 HPX HPA HWr
              have hx2 := hx.out
              clear hx
              by_cases x1 : 0 ≤ x
              · have dx1 : decide (0 ≤ x) = true := by simpa using x1
                by_cases x3 : 0 ≤ y
                · have dx2 : decide (0 ≤ y) = true := by simpa using x3
                  by_cases x2 : x < D.W k
                  · have dx3 : decide (x < D.W k) = true := by simpa using x2
                    have x4 : ¬ y < D.H k := fun h => hx2 ⟨x1, x2, x3, h⟩
                    have dx4 : decide (y < D.H k) = false := by simpa using x4
                    clear hx2 x1 x2 x3 x4
                    go_wp2
                    go_quiet (fail)
                    go_wp2
                    go_roundw
                    case rel => exact ⟨k + 1, by omega, by go_num, Lib.hid (below_drewN HW2.out _)⟩
                    case measure => simp [intOf]; omega
                  · have dx3 : decide (x < D.W k) = false := by simpa using x2
                    clear hx2 x1 x2 x3
                    go_wp2
                    go_quiet (fail)
                    go_wp2
                    go_roundw
                    case rel => exact ⟨k + 1, by omega, by go_num, Lib.hid (below_drewN HW2.out _)⟩
                    case measure => simp [intOf]; omega
                · have dx2 : decide (0 ≤ y) = false := by simpa using x3
                  clear hx2 x1 x3
                  go_wp2
                  go_quiet (fail)
                  go_wp2
                  go_roundw
                  case rel => exact ⟨k + 1, by omega, by go_num, Lib.hid (below_drewN HW2.out _)⟩
                  case measure => simp [intOf]; omega
              · have dx1 : decide (0 ≤ x) = false := by simpa using x1
                clear hx2 x1
                go_wp2
                go_quiet (fail)
                go_wp2
                go_roundw
                case rel => exact ⟨k + 1, by omega, by go_num, Lib.hid (below_drewN HW2.out _)⟩
                case measure => simp [intOf]; omega
          · have hpe : (((picB (D.W k) (D.H k) + 1 : Nat) : Int) == 0) = false := by simp; omega
            have HPE := Lib.hid (picE_bad lb (lo + k * 3) (D.W k) (D.H k) (D.f k) (D.a k) (D.n k) (D.c k) wr HPA.out hn g)
            have HVa := Lib.hid (fun W2 (hb : Below wr.heap.size wr W2) => validP_bad ad (D.W k) (D.H k) (D.f k) (D.a k) (D.n k) (D.c k) W2 ((HE.out.below (below_step HBr.out hb)).errs _ (by decide)) (HPA.out.below hb).2.2.2 hn g)
            have HCo := Lib.hid (fun W2 (hb : Below wr.heap.size wr W2) => coded4_err ad (picB (D.W k) (D.H k)) ((picB (D.W k) (D.H k) + 1 : Nat) : Int) (picB_lt3 _ _) (by omega) W2 (HE.out.below (below_step HBr.out hb)))
            have HAt := Lib.hid (fun W2 (hb : Below wr.heap.size wr W2) => at_bad ad (D.W k) (D.H k) x y (D.f k) (D.a k) (D.n k) (D.c k) W2 ((HE.out.below (below_step HBr.out hb)).errs _ (by decide)) (HPA.out.below hb).2.2.2 hn g)
            have HPX := Lib.hid (fun W2 (hb : Below wr.heap.size wr W2) => (HPA.out.below hb))
            obtain ⟨q0, q1, q2, _⟩ := HPA.out
            clear hw
            clear g
            unfold errV at HVa HCo
            generalize picB (D.W k) (D.H k) = pb at *
            generalize ((pb + 1 : Nat) : Int) = pe at *
            go_wp2_with fail
            refine HPE.out.mono ?_; rintro e w7 ⟨rfl, hb7⟩
            have C7 := Lib.hid hb7
            obtain ⟨q0, q1, q2, _⟩ := HPX.out _ hb7
            clear hb7 HPE
            go_wp2_with fail
            refine (HVa.out _ C7.out).mono ?_; rintro e w8 ⟨rfl, hb8⟩
            have C8 := Lib.hid (below_step C7.out hb8)
            clear hb8 HVa C7 q0 q1 q2
            go_wp2_with fail
            refine (HCo.out _ C8.out).mono ?_; rintro e w9 ⟨rfl, hb9⟩
            have C9 := Lib.hid (below_step C8.out hb9)
            obtain ⟨q0, q1, q2, _⟩ := HPX.out _ C9.out
            clear hb9 HCo C8
            go_wp2_with fail
            refine (HAt.out _ C9.out).mono ?_; rintro e w10 ⟨rfl, hb10⟩
            have C10 := Lib.hid (below_step C9.out hb10)
            obtain ⟨q0, q1, q2, _⟩ := HPX.out _ C10.out
            have HW2 := Lib.hid (below_step HWr.out C10.out)
            clear hb10 HAt C9 C10 HPX HPA HWr
            go_wp2
            go_quiet (fail)
            go_wp2
            go_roundw
            case rel => exact ⟨k + 1, by omega, by go_num, Lib.hid (below_drewN HW2.out _)⟩
            case measure => simp [intOf]; omega
        · obtain rfl : k = m := by omega
          go_wp2
          go_ret
          exact ⟨rfl, HBr.out⟩
    · obtain ⟨lb0, lo0, rfl, _, hpa0, _⟩ := (HP.out.below B6.out).at h0
      rw [Nat.zero_mul, Nat.add_zero] at hpa0
      obtain ⟨z0, z1, _⟩ := hpa0
      have dn0 : (D.W 0 != D.W 0) = false := by simp
      have dn1 : (D.H 0 != D.H 0) = false := by simp
      clear SO HK C6
      go_wp2
      go_quiet (fail)
      have HQ0 := Lib.hid (below_drewN (Below.refl w6.heap.size w6) nq)
      clear k0 k1 k2 z0 z1
      go_wp2
      go_loopw [15] (fun i wr => ∃ k : Nat, k ≤ m ∧ i = .int .i64 k ∧ Hid (Below w6.heap.size w6 wr)) (fun i _ => m - (intOf i).toNat)
      case atStart => exact ⟨0, Nat.zero_le _, rfl, HQ0⟩
      case round =>
        obtain ⟨k, hk, rfl, hw⟩ := hrel
        have HBr := Lib.hid (below_step B6.out hw.out)
        have HWr := hw
        by_cases hlt : k < m
        · obtain ⟨lb, lo, e', hlb, hpa, _, _, hn⟩ := (HP.out.below HBr.out).at hlt
          cases e'
          have HPA := Lib.hid hpa
          clear hpa
          by_cases g : picG (D.W k) (D.H k) (D.n k) (D.f k)
          · by_cases xr : 0 ≤ x ∧ x < D.W k ∧ 0 ≤ y ∧ y < D.H k
            · have hpos : 0 ≤ y * D.W k + x := by
                have := Int.mul_nonneg xr.2.2.1 (show 0 ≤ D.W k by omega)
                omega
              obtain ⟨ix, hix⟩ : ∃ ix : Nat, y * D.W k + x = ix := ⟨(y * D.W k + x).toNat, by omega⟩
              have hin : ix < D.n k := by
                obtain ⟨_, _, _, _, c4, _⟩ := g
                have h1 := Int.mul_le_mul_of_nonneg_right (show y + 1 ≤ D.H k by omega) (show 0 ≤ D.W k by omega)
                rw [Int.add_mul, Int.one_mul, Int.mul_comm (D.H k)] at h1
                omega
              have hn2 := (area_bd g).2
              obtain ⟨ba, oa, ea, hbal, _⟩ := HPA.out.2.2.2.at hin
              have HCK : Hid (∀ W2, Below wr.heap.size wr W2 → W2.cell? ⟨ba, oa + ix, none⟩ = some (.int .i64 (D.f k ix))) := Lib.hid (fun W2 hb => by
                obtain ⟨b', o', e2, _, hc⟩ := (HPA.out.below hb).2.2.2.at hin
                rw [ea] at e2
                cases e2
                exact hc)
              have HPE := Lib.hid (picE_ok lb0 (lo0 + k * 3) (D.W k) (D.H k) (D.f k) (D.a k) (D.n k) (D.c k) wr HPA.out g)
              have HVa := Lib.hid (fun W2 (hb : Below wr.heap.size wr W2) => validP_ok ad (D.W k) (D.H k) (D.f k) (D.a k) (D.n k) (D.c k) W2 ((HE.out.below (below_step HBr.out hb)).errs _ (by decide)) (HPA.out.below hb).2.2.2 g)
              have HCo := Lib.hid (fun W2 (hb : Below wr.heap.size wr W2) => coded4_nil W2)
              have HAt := Lib.hid (fun W2 (hb : Below wr.heap.size wr W2) => at_in ad (D.W k) (D.H k) x y (D.f k) (D.a k) (D.n k) (D.c k) ix W2 ((HE.out.below (below_step HBr.out hb)).errs _ (by decide)) (HPA.out.below hb).2.2.2 g xr.1 xr.2.1 xr.2.2.1 xr.2.2.2 hix)
              have HPX := Lib.hid (fun W2 (hb : Below wr.heap.size wr W2) => (HPA.out.below hb))
              obtain ⟨q0, q1, q2, _⟩ := HPA.out
              clear hw
              have HEA := Lib.hid ea
              clear ea g
              go_wp2_with fail
              refine HPE.out.mono ?_; rintro e w7 ⟨rfl, hb7⟩
              have C7 := Lib.hid hb7
              obtain ⟨q0, q1, q2, _⟩ := HPX.out _ hb7
              clear hb7 HPE
              go_wp2_with fail
              refine (HVa.out _ C7.out).mono ?_; rintro e w8 ⟨rfl, hb8⟩
              have C8 := Lib.hid (below_step C7.out hb8)
              clear hb8 HVa C7 q0 q1 q2
              go_wp2_with fail
              refine (HCo.out _ C8.out).mono ?_; rintro e w9 ⟨rfl, hb9⟩
              have C9 := Lib.hid (below_step C8.out hb9)
              obtain ⟨q0, q1, q2, _⟩ := HPX.out _ C9.out
              clear hb9 HCo C8
              go_wp2_with fail
              refine (HAt.out _ C9.out).mono ?_; rintro e w10 ⟨rfl, hb10⟩
              have C10 := Lib.hid (below_step C9.out hb10)
              obtain ⟨q0, q1, q2, _⟩ := HPX.out _ C10.out
              have ck := HCK.out _ C10.out
              rw [HEA.out] at q2
              have HW2 := Lib.hid (below_step HWr.out C10.out)
              clear hb10 HAt C9 C10 HPX HPA HWr
              obtain ⟨x1, x2, x3, x4⟩ := xr
              have dx1 : decide (0 ≤ x) = true := by simpa using x1
              have dx2 : decide (0 ≤ y) = true := by simpa using x3
              have dx3 : decide (x < D.W k) = true := by simpa using x2
              have dx4 : decide (y < D.H k) = true := by simpa using x4
              have dn : (D.f k ix != D.f k ix) = false := by simp
              have hyw : 0 ≤ y * D.W k ∧ y * D.W k ≤ 65536 := ⟨Int.mul_nonneg x3 (by omega), by omega⟩
              have ew3 : IntKind.i64.wrap (ix : Int) = (ix : Int) := IntWalk.i64_in _ (by omega)
              have ew1 : IntKind.i64.wrap (y * D.W k) = y * D.W k := IntWalk.i64_in _ (by omega)
              have ew2 : IntKind.i64.wrap (y * D.W k + x) = (ix : Int) := by rw [hix]; exact ew3
              have hi0 : (0 : Int) ≤ (ix : Int) := by omega
              have hi1 : (ix : Int) < (D.n k : Int) := by omega
              clear HCK HEA
              generalize D.f k ix = z at *
              generalize D.W k = Wk at *
              generalize D.H k = Hk at *
              go_wp2
              go_quiet (fail)
              go_wp2
              go_roundw
              case rel => exact ⟨k + 1, by omega, by go_num, Lib.hid (below_drewN HW2.out _)⟩
              case measure => simp [intOf]; omega
            · have hx : Hid (¬ (0 ≤ x ∧ x < D.W k ∧ 0 ≤ y ∧ y < D.H k)) := Lib.hid xr
              have HPE := Lib.hid (picE_ok lb0 (lo0 + k * 3) (D.W k) (D.H k) (D.f k) (D.a k) (D.n k) (D.c k) wr HPA.out g)
              have HVa := Lib.hid (fun W2 (hb : Below wr.heap.size wr W2) => validP_ok ad (D.W k) (D.H k) (D.f k) (D.a k) (D.n k) (D.c k) W2 ((HE.out.below (below_step HBr.out hb)).errs _ (by decide)) (HPA.out.below hb).2.2.2 g)
              have HCo := Lib.hid (fun W2 (hb : Below wr.heap.size wr W2) => coded4_nil W2)
              have HAt := Lib.hid (fun W2 (hb : Below wr.heap.size wr W2) => at_out ad (D.W k) (D.H k) x y (D.f k) (D.a k) (D.n k) (D.c k) W2 ((HE.out.below (below_step HBr.out hb)).errs _ (by decide)) (HPA.out.below hb).2.2.2 g xr)
              have HPX := Lib.hid (fun W2 (hb : Below wr.heap.size wr W2) => (HPA.out.below hb))
              obtain ⟨q0, q1, q2, _⟩ := HPA.out
              clear hw
              clear g xr
              go_wp2_with fail
              refine HPE.out.mono ?_; rintro e w7 ⟨rfl, hb7⟩
              have C7 := Lib.hid hb7
              obtain ⟨q0, q1, q2, _⟩ := HPX.out _ hb7
              clear hb7 HPE
              go_wp2_with fail
              refine (HVa.out _ C7.out).mono ?_; rintro e w8 ⟨rfl, hb8⟩
              have C8 := Lib.hid (below_step C7.out hb8)
              clear hb8 HVa C7 q0 q1 q2
              go_wp2_with fail
              refine (HCo.out _ C8.out).mono ?_; rintro e w9 ⟨rfl, hb9⟩
              have C9 := Lib.hid (below_step C8.out hb9)
              obtain ⟨q0, q1, q2, _⟩ := HPX.out _ C9.out
              clear hb9 HCo C8
              go_wp2_with fail
              refine (HAt.out _ C9.out).mono ?_; rintro e w10 ⟨rfl, hb10⟩
              have C10 := Lib.hid (below_step C9.out hb10)
              obtain ⟨q0, q1, q2, _⟩ := HPX.out _ C10.out
              have HW2 := Lib.hid (below_step HWr.out C10.out)
              clear hb10 HAt C9 C10 HPX HPA HWr
              have hx2 := hx.out
              clear hx
              by_cases x1 : 0 ≤ x
              · have dx1 : decide (0 ≤ x) = true := by simpa using x1
                by_cases x3 : 0 ≤ y
                · have dx2 : decide (0 ≤ y) = true := by simpa using x3
                  by_cases x2 : x < D.W k
                  · have dx3 : decide (x < D.W k) = true := by simpa using x2
                    have x4 : ¬ y < D.H k := fun h => hx2 ⟨x1, x2, x3, h⟩
                    have dx4 : decide (y < D.H k) = false := by simpa using x4
                    clear hx2 x1 x2 x3 x4
                    go_wp2
                    go_quiet (fail)
                    go_wp2
                    go_roundw
                    case rel => exact ⟨k + 1, by omega, by go_num, Lib.hid (below_drewN HW2.out _)⟩
                    case measure => simp [intOf]; omega
                  · have dx3 : decide (x < D.W k) = false := by simpa using x2
                    clear hx2 x1 x2 x3
                    go_wp2
                    go_quiet (fail)
                    go_wp2
                    go_roundw
                    case rel => exact ⟨k + 1, by omega, by go_num, Lib.hid (below_drewN HW2.out _)⟩
                    case measure => simp [intOf]; omega
                · have dx2 : decide (0 ≤ y) = false := by simpa using x3
                  clear hx2 x1 x3
                  go_wp2
                  go_quiet (fail)
                  go_wp2
                  go_roundw
                  case rel => exact ⟨k + 1, by omega, by go_num, Lib.hid (below_drewN HW2.out _)⟩
                  case measure => simp [intOf]; omega
              · have dx1 : decide (0 ≤ x) = false := by simpa using x1
                clear hx2 x1
                go_wp2
                go_quiet (fail)
                go_wp2
                go_roundw
                case rel => exact ⟨k + 1, by omega, by go_num, Lib.hid (below_drewN HW2.out _)⟩
                case measure => simp [intOf]; omega
          · have hpe : (((picB (D.W k) (D.H k) + 1 : Nat) : Int) == 0) = false := by simp; omega
            have HPE := Lib.hid (picE_bad lb0 (lo0 + k * 3) (D.W k) (D.H k) (D.f k) (D.a k) (D.n k) (D.c k) wr HPA.out hn g)
            have HVa := Lib.hid (fun W2 (hb : Below wr.heap.size wr W2) => validP_bad ad (D.W k) (D.H k) (D.f k) (D.a k) (D.n k) (D.c k) W2 ((HE.out.below (below_step HBr.out hb)).errs _ (by decide)) (HPA.out.below hb).2.2.2 hn g)
            have HCo := Lib.hid (fun W2 (hb : Below wr.heap.size wr W2) => coded4_err ad (picB (D.W k) (D.H k)) ((picB (D.W k) (D.H k) + 1 : Nat) : Int) (picB_lt3 _ _) (by omega) W2 (HE.out.below (below_step HBr.out hb)))
            have HAt := Lib.hid (fun W2 (hb : Below wr.heap.size wr W2) => at_bad ad (D.W k) (D.H k) x y (D.f k) (D.a k) (D.n k) (D.c k) W2 ((HE.out.below (below_step HBr.out hb)).errs _ (by decide)) (HPA.out.below hb).2.2.2 hn g)
            have HPX := Lib.hid (fun W2 (hb : Below wr.heap.size wr W2) => (HPA.out.below hb))
            obtain ⟨q0, q1, q2, _⟩ := HPA.out
            clear hw
            clear g
            unfold errV at HVa HCo
            generalize picB (D.W k) (D.H k) = pb at *
            generalize ((pb + 1 : Nat) : Int) = pe at *
            go_wp2_with fail
            refine HPE.out.mono ?_; rintro e w7 ⟨rfl, hb7⟩
            have C7 := Lib.hid hb7
            obtain ⟨q0, q1, q2, _⟩ := HPX.out _ hb7
            clear hb7 HPE
            go_wp2_with fail
            refine (HVa.out _ C7.out).mono ?_; rintro e w8 ⟨rfl, hb8⟩
            have C8 := Lib.hid (below_step C7.out hb8)
            clear hb8 HVa C7 q0 q1 q2
            go_wp2_with fail
            refine (HCo.out _ C8.out).mono ?_; rintro e w9 ⟨rfl, hb9⟩
            have C9 := Lib.hid (below_step C8.out hb9)
            obtain ⟨q0, q1, q2, _⟩ := HPX.out _ C9.out
            clear hb9 HCo C8
            go_wp2_with fail
            refine (HAt.out _ C9.out).mono ?_; rintro e w10 ⟨rfl, hb10⟩
            have C10 := Lib.hid (below_step C9.out hb10)
            obtain ⟨q0, q1, q2, _⟩ := HPX.out _ C10.out
            have HW2 := Lib.hid (below_step HWr.out C10.out)
            clear hb10 HAt C9 C10 HPX HPA HWr
            go_wp2
            go_quiet (fail)
            go_wp2
            go_roundw
            case rel => exact ⟨k + 1, by omega, by go_num, Lib.hid (below_drewN HW2.out _)⟩
            case measure => simp [intOf]; omega
        · obtain rfl : k = m := by omega
          go_wp2
          go_ret
          exact ⟨rfl, HBr.out⟩
end Go.Proofs.YtjdjncfpcbeedaaDoor
