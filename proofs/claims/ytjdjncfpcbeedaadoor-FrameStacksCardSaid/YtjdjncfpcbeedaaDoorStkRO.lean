/- StackOf of package meridianref4 at pictures that fit. -/
import Derived.Test.YtjdjncfpcbeedaaDoorStkR
namespace Go.Proofs.YtjdjncfpcbeedaaDoor
open Go.RowKit

set_option maxRecDepth 20000 in
set_option maxHeartbeats 4000000 in
theorem stackOf_ok (D : PicsD) (p : Option Addr) (m cap : Nat) (w : World) (hP : Pics w p m D) (h0 : 0 < m) (h64 : m ≤ 64) (hg : goodAll D m) (ha : alikeN D m) :
    Calls Tryd.prog 16 #[.slice p m cap] w fun e w' => (∃ a' c', e = .returned (.tuple #[.slice a' (D.n 0) c', .int .i64 0]) ∧ IRow w' a' (D.n 0) (fun k => medL (colL D m k))) ∧ Below w.heap.size w w' := by
  obtain ⟨i0, hi, hz0, hz1, hz2⟩ := info_parts info_int'
  obtain ⟨n1, n2⟩ := area_bd (hg 0 h0)
  have HP := Lib.hid hP
  have HG := Lib.hid hg
  have HAl := Lib.hid ha
  have HNn := Lib.hid (fun i (h : i < m) => same_n hg ha h0 h)
  clear hP hg ha
  have d1 : decide (64 < (m : Int)) = false := by simp; omega
  have d2 : ((m : Int) == 0) = false := by simp; omega
  go_enter Tryd.func16, Tryd.ntmps16
  go_wp2
  go_loopw [4] (fun i wr => ∃ k : Nat, k ≤ m ∧ i = .int .i64 k ∧ Hid (Below w.heap.size w wr)) (fun i _ => m - (intOf i).toNat)
  case atStart => exact ⟨0, Nat.zero_le _, rfl, Lib.hid (Below.refl _ _)⟩
  case round =>
    obtain ⟨k, hk, rfl, hw⟩ := hrel
    by_cases hlt : k < m
    · obtain ⟨lb, lo, rfl, hlb, hpa, _⟩ := (HP.out.below hw.out).at hlt
      have HV := Lib.hid (picE_ok lb (lo + k * 3) (D.W k) (D.H k) (D.f k) (D.a k) (D.n k) (D.c k) wr hpa (HG.out k hlt))
      clear hpa
      go_wp2_with fail
      refine HV.out.mono ?_; rintro e w2 ⟨rfl, hb2⟩
      have HW2 := Lib.hid (below_step hw.out hb2)
      clear hb2 HV hw
      go_wp2
      go_roundw
      case rel => exact ⟨k + 1, by omega, by go_num, HW2⟩
      case measure => simp [intOf]; omega
    · obtain rfl : k = m := by omega
      obtain ⟨lb, lo, rfl, hlb, hpa, _⟩ := (HP.out.below hw.out).at h0
      rw [Nat.zero_mul, Nat.add_zero] at hpa
      have HPA := Lib.hid hpa
      clear hpa
      go_wp2
      generalize wr = wo at *
      go_loopw [6] (fun i wr => ∃ j : Nat, j ≤ k ∧ i = .int .i64 j ∧ Hid (Below wo.heap.size wo wr)) (fun i _ => k - (intOf i).toNat)
      case atStart => exact ⟨0, Nat.zero_le _, rfl, Lib.hid (Below.refl _ _)⟩
      case round =>
        obtain ⟨j, hj, rfl, hw2⟩ := hrel
        by_cases hjt : j < k
        · obtain ⟨lb', lo', e', _, hpj, _⟩ := (HP.out.below (below_step hw.out hw2.out)).at hjt
          cases e'
          obtain ⟨p0, p1, _⟩ := hpj
          obtain ⟨q0, q1, _⟩ := HPA.out.below hw2.out
          obtain ⟨c1, c2⟩ := HAl.out j hjt
          have e1 : (D.W j != D.W 0) = false := by simp [c1]
          have e2 : (D.H j != D.H 0) = false := by simp [c2]
          clear c1 c2
          go_wp2
          go_quiet (fail)
          go_wp2
          go_roundw
          case rel => exact ⟨j + 1, by omega, by go_num, Lib.hid (below_drewN hw2.out _)⟩
          case measure => simp [intOf]; omega
        · obtain rfl : j = k := by omega
          have HPB := Lib.hid (HPA.out.below hw2.out)
          have HWB := Lib.hid (below_step hw.out hw2.out)
          clear HPA hw hw2
          go_wp2
          generalize wr = wb at *
          go_loopw [7, 8] (fun v t wr => ∃ i : Nat, i ≤ D.n 0 ∧ t = .int .i64 i ∧ Hid (Gath wb v (medsL D j i) wr)) (fun _ t _ => D.n 0 - (intOf t).toNat)
          case atStart => exact ⟨0, Nat.zero_le _, rfl, Lib.hid (Gath.nil wb)⟩
          case round =>
            obtain ⟨i, hin, rfl, hG⟩ := hrel
            obtain ⟨_, _, q2, _⟩ := HPB.out.below hG.out.2
            have hln := medsL_len D j i
            by_cases hit : i < D.n 0
            · go_wp2
              have hG7 := hG
              clear hG q2
              generalize wr = wc at *
              generalize u7 = v7 at *
              go_loopw [9, 10] (fun v t wr => ∃ x : Nat, x ≤ j ∧ t = .int .i64 x ∧ Hid (Gath wc v (upto (fun y => D.f y i) x) wr)) (fun _ t _ => j - (intOf t).toNat)
              case atStart => exact ⟨0, Nat.zero_le _, rfl, Lib.hid (Gath.nil wc)⟩
              case round =>
                obtain ⟨x, hxj, rfl, hG⟩ := hrel
                have HBi := Lib.hid (below_step HWB.out (below_step hG7.out.2 hG.out.2))
                by_cases hxt : x < j
                · obtain ⟨lb', lo', e', _, hpx, _⟩ := (HP.out.below HBi.out).at hxt
                  cases e'
                  obtain ⟨_, _, p2, hrow⟩ := hpx
                  rw [HNn.out x hxt] at p2 hrow
                  obtain ⟨ba, oa, e2, hbal, ck⟩ := hrow.at hit
                  rw [e2] at p2
                  have hlen : (upto (fun y => D.f y i) x).length ≤ 64 := by rw [upto_len]; omega
                  have HU := Lib.hid (upto_succ (fun y => D.f y i) x)
                  have hos := Lib.hid (fun o => World.ownsRow.alloc hG.out.1 o)
                  have hszi := hG.out.2.size
                  clear hrow
                  generalize D.f x i = z at *
                  generalize upto (fun y => D.f y i) x = Lx at *
                  go_wp2_with (first
                    | (at_builtin; refine wpList_append_own_at _ rfl _ _ 29 rfl wc.heap.size 3 i0 (.int .i64 0) 1 8 Tryd.underlying29 hi hz0 hz1 hz2 rfl (by decide) u9 Lx.length (Lx.map (Value.int .i64)) rfl (hos.out _) ⟨wr.heap.size, 0, none⟩ 1 1 [.int .i64 z] rfl rfl ?c1 ?c2 ?c3 ?c4 ?c5 ?_)
                    | fail)
                  case c1 =>
                    intro j' u hj'
                    match j', hj' with
                    | 0, hj' => simp at hj'; subst hj'; simp [Addr.add]
                  case c2 =>
                    intro u hu
                    simp only [List.mem_cons, List.not_mem_nil, or_false] at hu
                    subst hu; rfl
                  case c3 => unfold maxLen; omega
                  case c4 => omega
                  case c5 => simp; omega
                  intro v' w4 hown hgrow _ _
                  have R := Lib.hid (hG.out.step hown hgrow)
                  clear hown hgrow hos p2 ck
                  go_wp2
                  go_roundw
                  case rel => exact ⟨x + 1, by omega, by go_num, Lib.hid (by rw [HU.out]; exact R.out)⟩
                  case measure => simp [intOf]; omega
                · obtain rfl : x = j := by omega
                  obtain ⟨ga, gc, rfl, hrow⟩ := hG.out.row
                  have hcl : colL D x i = upto (fun y => D.f y i) x := rfl
                  rw [← hcl] at hrow hG ⊢
                  rw [colL_len] at hrow ⊢
                  have HMe := Lib.hid (medianOf_any (fun y => (colL D x i).getD y 0) ga x gc h0 (by omega) wr hrow)
                  have e3 : upto (fun y => (colL D x i).getD y 0) x = colL D x i := by
                    have := upto_list (colL D x i)
                    rw [colL_len] at this
                    exact this
                  rw [e3] at HMe
                  have HG8 := Lib.hid (hG7.out.below hG.out.2)
                  have hMS : Hid (medsL D x (i + 1) = medsL D x i ++ [medL (colL D x i)]) := Lib.hid (upto_succ _ _)
                  clear hcl hrow hG hG7 e3
                  generalize medL (colL D x i) = md at *
                  generalize medsL D x i = L7 at *
                  go_wp2_with fail
                  refine HMe.out.mono ?_; rintro e w5 ⟨rfl, hb5⟩
                  have HG5 := Lib.hid (HG8.out.below hb5)
                  have hos := Lib.hid (fun o => World.ownsRow.alloc HG5.out.1 o)
                  have hsz5 := HG5.out.2.size
                  clear hb5 HMe HG8
                  go_wp2_with (first
                    | (at_builtin; refine wpList_append_own_at _ rfl _ _ 29 rfl wb.heap.size 3 i0 (.int .i64 0) 1 8 Tryd.underlying29 hi hz0 hz1 hz2 rfl (by decide) v7 L7.length (L7.map (Value.int .i64)) rfl (hos.out _) ⟨w5.heap.size, 0, none⟩ 1 1 [.int .i64 md] rfl rfl ?c1 ?c2 ?c3 ?c4 ?c5 ?_)
                    | fail)
                  case c1 =>
                    intro j' u hj'
                    match j', hj' with
                    | 0, hj' => simp at hj'; subst hj'; simp [Addr.add]
                  case c2 =>
                    intro u hu
                    simp only [List.mem_cons, List.not_mem_nil, or_false] at hu
                    subst hu; rfl
                  case c3 => unfold maxLen; omega
                  case c4 => omega
                  case c5 => simp; omega
                  intro v' w6 hown hgrow _ _
                  rw [← hln] at hown
                  have R := Lib.hid (HG5.out.step hown hgrow)
                  clear hown hgrow hos
                  go_wp2
                  go_roundw
                  case rel => exact ⟨i + 1, by omega, by go_num, Lib.hid (by rw [hMS.out]; exact R.out)⟩
                  case measure => simp [intOf]; omega
            · obtain rfl : i = D.n 0 := by omega
              obtain ⟨a', c', rfl, hrow⟩ := hG.out.row
              rw [hln] at hrow ⊢
              have HROW := Lib.hid (hrow.congr (fun y hy => medsL_get D j (D.n 0) hy))
              have HBf := Lib.hid (below_step HWB.out hG.out.2)
              clear hrow hG
              go_wp2
              go_ret2
              exact ⟨⟨a', c', rfl, HROW.out⟩, HBf.out⟩
end Go.Proofs.YtjdjncfpcbeedaaDoor
