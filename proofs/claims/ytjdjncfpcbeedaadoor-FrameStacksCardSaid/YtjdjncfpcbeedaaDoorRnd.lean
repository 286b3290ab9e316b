/- light.Round: its walk. -/
import Derived.Test.YtjdjncfpcbeedaaDoorRndP
import Derived.Test.YtjdjncfpcbeedaaDoorMed
import Derived.Test.YtjdjncfpcbeedaaDoorPic
namespace Go.Proofs.YtjdjncfpcbeedaaDoor
open Go.RowKit

set_option maxHeartbeats 1000000 in
theorem middle_any (x y X Y L : Int) (x0 : 0 ≤ x) (x1 : x ≤ 65536) (y0 : 0 ≤ y) (y1 : y ≤ 65536) (X0 : -268435456 ≤ X) (X1 : X ≤ 268435456) (Y0 : -268435456 ≤ Y) (Y1 : Y ≤ 268435456) (w : World) :
    Calls Tryd.prog 36 #[.int .i64 x, .int .i64 y, .agg #[.int .i64 X, .int .i64 Y, .int .i64 L]] w fun e w' => e = .returned (.int .i64 (midF X Y x y)) ∧ Below w.heap.size w w' := by
  have ha := sq_bd30 (A := 1024 * x + 512 - X) (by omega) (by omega)
  have hb := sq_bd30 (A := 1024 * y + 512 - Y) (by omega) (by omega)
  have hm : midF X Y x y = (1024 * x + 512 - X) * (1024 * x + 512 - X) + (1024 * y + 512 - Y) * (1024 * y + 512 - Y) := rfl
  rw [hm]
  clear hm
  go_enter Tryd.func36, Tryd.ntmps36
  go_wp2
  go_quiet (fail)
  go_wp2
  go_ret
  exact ⟨rfl, below_drewN ((Below.refl _ _).alloc (Nat.le_refl _) _) _⟩
theorem own_below {w w' : World} {base e size k : Nat} {v : Value} {xs : List Value} (h : w.ownsRow base e size v k xs) (hb : Below w.heap.size w w') : w'.ownsRow base e size v k xs := by
  refine ⟨h.1, ?_⟩
  rcases h.2 with h0 | ⟨g, cap, cur, e1, e2, e3, e4⟩
  · exact Or.inl h0
  · exact Or.inr ⟨g, cap, cur, e1, e2, (hb.block g (Array.getElem?_eq_some_iff.1 e3).1).trans e3, e4⟩
theorem Gath.below {w wr w' : World} {v : Value} {L : List Int} (h : Gath w v L wr) (hb : Below wr.heap.size wr w') : Gath w v L w' := ⟨own_below h.1 hb, below_step h.2 hb⟩
/-- How far the pixels of a picture are. -/
def rQ (X Y W : Int) (i : Nat) : Int := midF X Y ((i : Int) % W) ((i : Int) / W)
theorem divmod_bd {W : Int} (h1 : 1 ≤ W) (k : Nat) : 0 ≤ (k : Int) % W ∧ (k : Int) % W < W ∧ 0 ≤ (k : Int) / W ∧ (k : Int) / W ≤ k :=
  ⟨Int.emod_nonneg _ (by omega), Int.emod_lt_of_pos _ (by omega), Int.ediv_nonneg (by omega) (by omega), Int.ediv_le_self _ (by omega)⟩
theorem area_bd {W H : Int} {n : Nat} {f : Nat → Int} (g : picG W H n f) : 1 ≤ n ∧ n ≤ 65536 := by
  obtain ⟨w1, w2, h1, h2, c4, _⟩ := g
  have p1 : 1 ≤ W * H := by
    have := Int.mul_le_mul (show (1 : Int) ≤ W by omega) (show (1 : Int) ≤ H by omega) (by decide) (by omega)
    omega
  have p2 : W * H ≤ 65536 := by
    have := Int.mul_le_mul (show W ≤ (256 : Int) by omega) (show H ≤ (256 : Int) by omega) (by omega) (by decide)
    omega
  omega
theorem below2 {w : World} (o1 o2 : Obj) : Below w.heap.size w ((w.alloc o1).alloc o2) := ((Below.refl _ _).alloc (Nat.le_refl _) _).alloc (by simp) _
set_option maxRecDepth 10000 in
set_option maxHeartbeats 4000000 in
theorem round_ok (ad : Nat → Addr) (W H X Y L inn out : Int) (f : Nat → Int) (a : Option Addr) (n cap : Nat) (w : World) (he : Errs w ad [1, 4]) (h : IRow w a n f) (g : picG W H n f)
    (i1 : 1 ≤ inn) (i2 : inn < out) (i3 : out ≤ 1048576) (X0 : -268435456 ≤ X) (X1 : X ≤ 268435456) (Y0 : -268435456 ≤ Y) (Y1 : Y ≤ 268435456) :
    Calls Tryd.prog 9 #[.agg #[.int .i64 W, .int .i64 H, .slice a n cap], .agg #[.int .i64 X, .int .i64 Y, .int .i64 L], .int .i64 inn, .int .i64 out] w fun e w' =>
      e = .returned (.tuple #[.int .i64 (rL f (rQ X Y W) (inn * inn) n - rG (rA f (rQ X Y W) (inn * inn) (out * out) n) * (rP (rQ X Y W) (inn * inn) n : Nat)), .int .i64 (rG (rA f (rQ X Y W) (inn * inn) (out * out) n)), .int .i64 (rP (rQ X Y W) (inn * inn) n : Nat), .nilIface]) ∧ Below w.heap.size w w' := by
  obtain ⟨i0, hi, hz0, hz1, hz2⟩ := info_parts info_int'
  obtain ⟨W, rfl⟩ : ∃ V : Nat, W = (V : Int) := ⟨W.toNat, by have := g.1; omega⟩
  have HV := Lib.hid (fun o1 o2 => validP_ok ad W H f a n cap ((w.alloc o1).alloc o2) (he.below (below2 o1 o2)) (h.below (below2 o1 o2)) g)
  obtain ⟨n1, n2⟩ := area_bd g
  obtain ⟨w1, w2, h1, h2, c4, hc⟩ := g
  have HA := Lib.hid (fun j (hj : j < n) => h.at hj)
  have HC := Lib.hid hc
  have hsi := sq_bd30 (A := inn) (by omega) (by omega)
  have hso := sq_bd30 (A := out) (by omega) (by omega)
  have hW0 : ((W : Int) == 0) = false := by simp; omega
  have HMd := Lib.hid (fun x y x0 x1 y0 y1 W2 => middle_any x y X Y L x0 x1 y0 y1 X0 X1 Y0 Y1 W2)
  clear he h hc
  go_enter Tryd.func9, Tryd.ntmps9
  go_wp2_with fail
  refine (HV.out _ _).mono ?_; rintro e wa ⟨rfl, hb1⟩
  clear HV
  have k0 : wa.cell? ⟨w.heap.size, 0, none⟩ = some (.int .i64 W) := by rw [hb1.cell (p := ⟨w.heap.size, 0, none⟩) (by simp; omega)]; simp
  have k2 : wa.cell? ⟨w.heap.size, 2, none⟩ = some (.slice a n cap) := by rw [hb1.cell (p := ⟨w.heap.size, 2, none⟩) (by simp; omega)]; simp
  have s0 : wa.cell? ⟨w.heap.size + 1, 0, none⟩ = some (.int .i64 X) := by rw [hb1.cell (p := ⟨w.heap.size + 1, 0, none⟩) (by simp)]; simp
  have s1 : wa.cell? ⟨w.heap.size + 1, 1, none⟩ = some (.int .i64 Y) := by rw [hb1.cell (p := ⟨w.heap.size + 1, 1, none⟩) (by simp)]; simp
  have s2 : wa.cell? ⟨w.heap.size + 1, 2, none⟩ = some (.int .i64 L) := by rw [hb1.cell (p := ⟨w.heap.size + 1, 2, none⟩) (by simp)]; simp
  have hbw := below_step (below2 _ _) hb1
  have HB := Lib.hid hbw
  have hsz : w.heap.size + 1 < wa.heap.size := cell_lt s0
  clear hb1 hbw
  go_wp2
  have HS : Hid (∀ W', Below wa.heap.size wa W' → W'.cell? ⟨w.heap.size, 0, none⟩ = some (.int .i64 W) ∧ W'.cell? ⟨w.heap.size + 1, 0, none⟩ = some (.int .i64 X) ∧ W'.cell? ⟨w.heap.size + 1, 1, none⟩ = some (.int .i64 Y) ∧ W'.cell? ⟨w.heap.size + 1, 2, none⟩ = some (.int .i64 L)) := Lib.hid (fun W' hb => ⟨by rw [hb.cell (p := ⟨w.heap.size, 0, none⟩) (show w.heap.size < wa.heap.size by omega)]; exact k0, by rw [hb.cell (p := ⟨w.heap.size + 1, 0, none⟩) hsz]; exact s0, by rw [hb.cell (p := ⟨w.heap.size + 1, 1, none⟩) hsz]; exact s1, by rw [hb.cell (p := ⟨w.heap.size + 1, 2, none⟩) hsz]; exact s2⟩)
  clear k0 k2 s0 s1 s2
  go_loopw [8, 10, 13, 57] (fun l p v i wr => ∃ k : Nat, k ≤ n ∧ i = .int .i64 k ∧ l = .int .i64 (rL f (rQ X Y W) (inn * inn) k) ∧ p = .int .i64 (rP (rQ X Y W) (inn * inn) k : Nat) ∧ Hid (Gath wa v (rA f (rQ X Y W) (inn * inn) (out * out) k) wr)) (fun _ _ _ i _ => n - (intOf i).toNat)
  case atStart => exact ⟨0, Nat.zero_le _, rfl, rfl, rfl, Lib.hid (Gath.nil wa)⟩
  case round =>
    obtain ⟨k, hk, rfl, rfl, rfl, hG⟩ := hrel
    have hbl := rL_bd (q := rQ X Y W) (a := inn * inn) HC.out k hk
    have hbp := rP_le (q := rQ X Y W) (a := inn * inn) k
    have hba := rA_len (f := f) (q := rQ X Y W) (a := inn * inn) (b := out * out) k
    by_cases hlt : k < n
    · obtain ⟨ba, oa, rfl, hbal, ck⟩ := HA.out k hlt
      have ckr : wr.cell? ⟨ba, oa + k, none⟩ = some (.int .i64 (f k)) := by rw [(below_step HB.out hG.out.2).cell (p := ⟨ba, oa + k, none⟩) hbal]; exact ck
      have hfk := HC.out k hlt
      obtain ⟨d1, d2, d3, d4⟩ := divmod_bd w1 k
      have HS0 := Lib.hid (HS.out wr hG.out.2)
      have HS1 := Lib.hid (HS.out wr.drew hG.out.2.drew)
      have HS3 := Lib.hid (fun w3 (hb : Below wr.drew.heap.size wr.drew w3) => HS.out w3 (below_step hG.out.2.drew hb))
      obtain ⟨k0, s0, s1, s2⟩ := HS.out wr hG.out.2
      have HMk := Lib.hid (fun W2 => HMd.out ((k : Int) % W) ((k : Int) / W) d1 (by omega) d3 (by omega) W2)
      have hq : midF X Y ((k : Int) % W) ((k : Int) / W) = rQ X Y W k := rfl
      rw [hq] at HMk
      have ew : IntKind.i64.wrap ((k : Int) / W) = (k : Int) / W := IntWalk.i64_in _ (by omega)
      have er : IntKind.i64.wrap ((k : Int) % W) = (k : Int) % W := IntWalk.i64_in _ (by omega)
      have et : (k : Int).tmod W = (k : Int) % W := Int.tmod_eq_emod_of_nonneg (by omega)
      have ed : (k : Int).tdiv W = (k : Int) / W := Int.tdiv_eq_ediv_of_nonneg (by omega)
      have hW1 : ¬ ((W : Int) = 0) := by omega
      have hW2 : ¬ (W = 0) := by omega
      have hW3 : (W == 0) = false := by simp; omega
      have EL := Lib.hid (fun h => rL_in (f := f) (q := rQ X Y W) (a := inn * inn) (k := k) h)
      clear ck hq
      go_wp2
      go_region_held3 (fun w' => w'.cell? ⟨w.heap.size, 0, none⟩ = some (.int .i64 W) ∧ w'.cell? ⟨w.heap.size + 1, 0, none⟩ = some (.int .i64 X) ∧ w'.cell? ⟨w.heap.size + 1, 1, none⟩ = some (.int .i64 Y) ∧ w'.cell? ⟨w.heap.size + 1, 2, none⟩ = some (.int .i64 L))
        (first | (exact HS3.out _ hb3) | (exact HS0.out) | (exact HS1.out) | go_keep)
        (first | (go_at_call 36; with_reducible refine (HMk.out wr.drew).mono ?_; rintro e w3 ⟨rfl, hb3⟩))
      all_goals
        have HG3 := Lib.hid (hG.out.below (below_step (Below.refl _ _).drew hb3))
        have EL1 := Lib.hid (fun h => rL_in (f := f) (q := rQ X Y W) (a := inn * inn) (k := k) h)
        have EL2 := Lib.hid (fun h => rL_out (f := f) (q := rQ X Y W) (a := inn * inn) (k := k) h)
        have EP1 := Lib.hid (fun h => rP_in (q := rQ X Y W) (a := inn * inn) (k := k) h)
        have EP2 := Lib.hid (fun h => rP_out (q := rQ X Y W) (a := inn * inn) (k := k) h)
        have EA1 := Lib.hid (fun h => rA_in (f := f) (q := rQ X Y W) (a := inn * inn) (b := out * out) (k := k) h)
        have EA2 := Lib.hid (fun h h2 => rA_mid (f := f) (q := rQ X Y W) (a := inn * inn) (b := out * out) (k := k) h h2)
        have EA3 := Lib.hid (fun h h2 => rA_out (f := f) (q := rQ X Y W) (a := inn * inn) (b := out * out) (k := k) h h2)
        clear hb3 hG HS0 HS1 HS3 HMk ew er et ed hW1 hW2 hW3 k0 s0 s1 s2 ckr EL
        by_cases c1 : rQ X Y W k ≤ inn * inn
        · have E1 := Lib.hid (EL1.out c1)
          have E2 := Lib.hid (EP1.out c1)
          have E3 := Lib.hid (EA1.out c1)
          clear EL1 EL2 EP1 EP2 EA1 EA2 EA3
          generalize rQ X Y W k = m at *
          generalize rL f (rQ X Y W) (inn * inn) k = l at *
          generalize rP (rQ X Y W) (inn * inn) k = p at *
          generalize f k = x at *
          go_wp2
          go_roundw
          case rel => exact ⟨k + 1, by omega, by go_num, by rw [E1.out], by rw [E2.out]; go_num, Lib.hid (by rw [E3.out]; exact HG3.out)⟩
          case measure => simp [intOf]; omega
        · have E1 := Lib.hid (EL2.out c1)
          have E2 := Lib.hid (EP2.out c1)
          by_cases c2 : rQ X Y W k ≤ out * out
          · have E3 := Lib.hid (EA2.out c1 c2)
            have hos := Lib.hid (fun o => World.ownsRow.alloc HG3.out.1 o)
            have hsz3 := HG3.out.2.size
            have c1' : inn * inn < rQ X Y W k := by omega
            clear EL1 EL2 EP1 EP2 EA1 EA2 EA3 c1
            generalize rQ X Y W k = m at *
            generalize rL f (rQ X Y W) (inn * inn) k = l at *
            generalize rP (rQ X Y W) (inn * inn) k = p at *
            generalize rA f (rQ X Y W) (inn * inn) (out * out) k = Lk at *
            generalize f k = x at *
            go_wp2_with (first
              | (at_builtin; refine wpList_append_own_at _ rfl _ _ 29 rfl wa.heap.size 3 i0 (.int .i64 0) 1 8 Tryd.underlying29 hi hz0 hz1 hz2 rfl (by decide) u13 Lk.length (Lk.map (Value.int .i64)) rfl (hos.out _) ⟨w3.heap.size, 0, none⟩ 1 1 [.int .i64 x] rfl rfl ?c1 ?c2 ?c3 ?c4 ?c5 ?_)
              | fail)
            case c1 =>
              intro j u hj
              match j, hj with
              | 0, hj => simp at hj; subst hj; simp [Addr.add]
            case c2 =>
              intro u hu
              simp only [List.mem_cons, List.not_mem_nil, or_false] at hu
              subst hu; rfl
            case c3 => unfold maxLen; omega
            case c4 => omega
            case c5 => simp; omega
            intro v' w4 hown hgrow _ _
            have R := Lib.hid (HG3.out.step hown hgrow)
            clear hown hgrow hos
            go_wp2
            go_roundw
            case rel => exact ⟨k + 1, by omega, by go_num, by rw [E1.out], by rw [E2.out], Lib.hid (by rw [E3.out]; exact R.out)⟩
            case measure => simp [intOf]; omega
          · have E3 := Lib.hid (EA3.out c1 c2)
            have c1' : inn * inn < rQ X Y W k := by omega
            have c2' : out * out < rQ X Y W k := by omega
            clear EL1 EL2 EP1 EP2 EA1 EA2 EA3 c1 c2
            generalize rQ X Y W k = m at *
            generalize rL f (rQ X Y W) (inn * inn) k = l at *
            generalize rP (rQ X Y W) (inn * inn) k = p at *
            generalize f k = x at *
            go_wp2
            go_roundw
            case rel => exact ⟨k + 1, by omega, by go_num, by rw [E1.out], by rw [E2.out], Lib.hid (by rw [E3.out]; exact HG3.out)⟩
            case measure => simp [intOf]; omega
    · obtain rfl : k = n := by omega
      have HBr := Lib.hid (below_step HB.out hG.out.2)
      by_cases c0 : rA f (rQ X Y W) (inn * inn) (out * out) k = []
      · have hG0 : rG (rA f (rQ X Y W) (inn * inn) (out * out) k) = 0 := by rw [c0]; exact rG_nil
        have hz : (rA f (rQ X Y W) (inn * inn) (out * out) k).length = 0 := by rw [c0]; rfl
        obtain ⟨ga, gc, rfl, _⟩ := hG.out.row
        rw [hz]
        have HG0 := Lib.hid hG0
        clear hG hG0 hba hz c0
        go_wp2
        refine bodyPost_ret (v := .tuple #[.int .i64 (rL f (rQ X Y W) (inn * inn) k), .int .i64 0, .int .i64 (rP (rQ X Y W) (inn * inn) k : Nat), .nilIface]) ?_ rfl ?_
        · simp [results, Tryd.results9, go_sem]
        · exact ⟨by rw [HG0.out]; simp, HBr.out⟩
      · have hpos : 0 < (rA f (rQ X Y W) (inn * inn) (out * out) k).length := List.length_pos_iff.2 c0
        obtain ⟨ga, gc, rfl, hrow⟩ := hG.out.row
        have hmd := medL_bd c0 (rA_mem HC.out k (Nat.le_refl _))
        have hgs := rG_some c0
        have HMe := Lib.hid (median_any (fun j => (rA f (rQ X Y W) (inn * inn) (out * out) k).getD j 0) ga _ gc hpos (by omega) wr hrow)
        rw [upto_list] at HMe
        have hmul : 0 ≤ medL (rA f (rQ X Y W) (inn * inn) (out * out) k) * (rP (rQ X Y W) (inn * inn) k : Nat) ∧ medL (rA f (rQ X Y W) (inn * inn) (out * out) k) * (rP (rQ X Y W) (inn * inn) k : Nat) ≤ 65535 * 65536 := ⟨Int.mul_nonneg hmd.1 (by omega), Int.mul_le_mul hmd.2 (by omega) (by omega) (by decide)⟩
        have HG0 := Lib.hid hgs
        clear hG hrow hgs c0
        generalize medL (rA f (rQ X Y W) (inn * inn) (out * out) k) = md at *
        generalize (rA f (rQ X Y W) (inn * inn) (out * out) k).length = Ln at *
        go_wp2_with fail
        refine HMe.out.mono ?_; rintro e w5 ⟨rfl, hb5⟩
        have HB5 := Lib.hid (below_step HBr.out hb5)
        clear hb5 HMe
        go_wp2
        refine bodyPost_ret (v := .tuple #[.int .i64 (rL f (rQ X Y W) (inn * inn) k - md * (rP (rQ X Y W) (inn * inn) k : Nat)), .int .i64 md, .int .i64 (rP (rQ X Y W) (inn * inn) k : Nat), .nilIface]) ?_ rfl ?_
        · simp [results, Tryd.results9, go_sem]
        · exact ⟨by rw [HG0.out], HB5.out⟩
end Go.Proofs.YtjdjncfpcbeedaaDoor
