/- addVW, subVW: a word added to a row of words, or taken away. -/
import Derived.Test.YtmkdcnemocdefaaGreatFmtCopy
import Derived.Test.YtmkdcnemocdefaaGreatFmtBgC
namespace Go.Proofs.YtmkdcnemocdefaaGreatFmt
open Go.RowKit

/-- Behind the last carry the words stand: in place. -/
theorem rest_same {w wr : World} {g o C n i : Nat} {f x z : Nat → Nat} (hz : Blk w g C f) (hx : WR w g o n x) (h : Blk wr g C (put f o i z)) (hi : i ≤ n) (hr : ∀ j, i ≤ j → j < n → z j = x j) : Blk wr g C (put f o n z) := by
  refine h.congr fun j hj => ?_
  unfold put
  by_cases a : o ≤ j ∧ j < o + i
  · rw [if_pos a, if_pos ⟨a.1, by omega⟩]
  · rw [if_neg a]
    by_cases b : o ≤ j ∧ j < o + n
    · rw [if_pos b, hr (j - o) (by omega) (by omega)]
      have c1 := hz.cell j hj
      have c2 := hx (j - o) (by omega)
      rw [show o + (j - o) = j by omega, c1] at c2
      simp at c2
      omega
    · rw [if_neg b]
/-- Behind the last carry the words are copied. -/
theorem rest_copied {wr : World} {g o C n i : Nat} {f x z : Nat → Nat} (h : Blk wr g C (put (put f o i z) (o + i) (n - i) (fun j => x (i + j)))) (hi : i ≤ n) (hr : ∀ j, i ≤ j → j < n → z j = x j) : Blk wr g C (put f o n z) := by
  refine h.congr fun j hj => ?_
  unfold put
  by_cases a : o + i ≤ j ∧ j < o + i + (n - i)
  · rw [if_pos a, if_pos ⟨by omega, by omega⟩, hr (j - o) (by omega) (by omega)]
    congr 1; omega
  · rw [if_neg a]
    by_cases b : o ≤ j ∧ j < o + i
    · rw [if_pos b, if_pos ⟨b.1, by omega⟩]
    · rw [if_neg b, if_neg (by omega)]
/-- What stands behind place i is copied. -/
theorem copy_rest (gz oz cz gx ox cx n i C : Nat) (x F : Nat → Nat) (W : World) (hz : Blk W gz C F) (hx : WR W gx ox n x) (hC : oz + n ≤ C) (hi : i ≤ n) (h1 : n ≤ cz) (h2 : n ≤ cx) (a1 a2 : Addr) (e1 : i < cz → a1 = ⟨gz, oz + i, none⟩) (e2 : i < cx → a2 = ⟨gx, ox + i, none⟩) :
    ∃ w', (Builtin.copy_ #[33, 33] 3 #[.slice (some a1) (n - i) (cz - i), .slice (some a2) (n - i) (cx - i)]).run Tryz.prog W = .ok (.int .i64 ((n - i : Nat) : Int)) w' ∧ Blk w' gz C (put F (oz + i) (n - i) (fun j => x (i + j))) ∧ Only W w' gz := by
  rcases Nat.lt_or_ge i n with h | h
  · rw [e1 (by omega), e2 (by omega)]
    exact copy_words 33 Tryz.underlying33 3 gz (oz + i) (n - i) (cz - i) gx (ox + i) (n - i) (cx - i) (n - i) C (fun j => x (i + j)) F W hz (fun j hj => by rw [show ox + i + j = ox + (i + j) by omega]; exact hx (i + j) (by omega)) (by simp) (by omega)
  · obtain rfl : i = n := by omega
    rw [Nat.sub_self, put_none]
    exact ⟨W, copy_nought 33 Tryz.underlying33 3 _ _ _ _ _ _ W (by simp), hz, Only.refl _ _⟩

set_option maxHeartbeats 1000000 in
/-- In place. -/
theorem addVW_same (g o cz n C y : Nat) (x f : Nat → Nat) (w : World) (hz : Blk w g C f) (hC : o + n ≤ C) (hx : WR w g o n x) (wx : Wds x n) (hy : y < 18446744073709551616) (h1 : 1 ≤ n) (hn : n ≤ 1000000) :
    Calls Tryz.prog 44 #[.slice (some ⟨g, o, none⟩) n cz, .slice (some ⟨g, o, none⟩) n cz, .int .u64 (y : Int)] w fun e w' =>
      e = .returned (.int .u64 (addC x (one y) n : Int)) ∧ Blk w' g C (put f o n (addW x (one y))) ∧ Only w w' g := by
  have HA := Lib.hid (fun W => bits_add (x 0) y 0 (wx 0 (by omega)) hy (by omega) W)
  have e1 : (x 0 + y + 0) % 18446744073709551616 = addW x (one y) 0 := rfl
  have e2 : (x 0 + y + 0) / 18446744073709551616 = addC x (one y) 1 := rfl
  rw [e1, e2] at HA
  have HX := Lib.hid (fun wr i hb ho j h1 h2 => row_keep (wr := wr) (i := i) (z := addW x (one y)) hx hz hb ho (Or.inr rfl) hC j h1 h2)
  have HZ := Lib.hid hz
  have HXX := Lib.hid hx
  have WX := Lib.hid wx
  have HC := Lib.hid hC
  have np := fun i W => wptr_same g i W
  have h0 : Hid (Blk w g C (put f o 0 (addW x (one y)))) := Lib.hid (by rw [put_none]; exact hz)
  have x0 := hx 0 (by omega)
  have f0 := hz.frozen (o + 0)
  have e0 := addC_le (wx.le h1) ((one_wds y n hy).le h1)
  have n0 : ¬ ((n : Int) = 0) := by omega
  have n1 : (0 : Int) < (n : Int) := by omega
  clear e1 e2 hx hz wx hC
  rw [Nat.add_zero] at x0 f0
  go_enter Tryz.func44, Tryz.ntmps44
  go_wp2_with fail
  refine (HA.out _).mono ?_; rintro e w1 ⟨rfl, rfl⟩
  by_cases c : addC x (one y) 1 = 0
  · have c' : ((addC x (one y) 1 : Nat) : Int) = 0 := by omega
    have ec : addC x (one y) n = 0 := by
      have r := add_rest WX.out (i := 0) (by omega) c (n - 1) (by omega)
      rw [show 0 + 1 + (n - 1) = n by omega] at r
      exact r
    have HB := Lib.hid (rest_same HZ.out HXX.out (h0.out.put (addW x (one y) 0) rfl) (by omega) (fun j h1 h2 => add_rest_w WX.out c (by omega) h2))
    go_wp2_with fail
    go_quiet (fail)
    go_wp2
    go_ret
    exact ⟨by rw [ec]; rfl, HB.out.drewN _, ((Only.refl _ _).set _ _).drewN _⟩
  · have c' : ¬ (((addC x (one y) 1 : Nat) : Int) = 0) := by omega
    have c1 : addC x (one y) 1 = 1 := by omega
    have H1 : Hid (Blk (w1.setCell ⟨g, o, none⟩ (.int .u64 (addW x (one y) 0 : Int))) g C (put f o 1 (addW x (one y)))) := Lib.hid (h0.out.put (addW x (one y) 0) rfl)
    have HO : Hid (Only w1 (w1.setCell ⟨g, o, none⟩ (.int .u64 (addW x (one y) 0 : Int))) g) := Lib.hid ((Only.refl _ _).set _ _)
    have C1 := Lib.hid c1
    clear c c1 h0 HA e0
    go_wp2_with fail
    go_loopw [9] (fun k wr => ∃ i : Nat, 1 ≤ i ∧ i ≤ n ∧ k = .int .i64 i ∧ Hid (addC x (one y) i = 1) ∧ Hid (Blk wr g C (put f o i (addW x (one y)))) ∧ Hid (Only w1 wr g)) (fun k _ => n - (intOf k).toNat)
    case atStart => exact ⟨1, Nat.le_refl _, h1, rfl, C1, H1, HO⟩
    case round =>
      obtain ⟨i, hi1, hi, rfl, hc, hb, ho⟩ := hrel
      rcases Nat.lt_or_ge i n with h | h
      · have lx := HX.out _ i hb.out ho.out i (Nat.le_refl _) h
        have lz := hb.out.cell (o + i) (by have := HC.out; omega)
        have lf := hb.out.frozen (o + i)
        have bx := WX.out i h
        have o1 : one y i = 0 := if_neg (by omega)
        by_cases m : x i = 18446744073709551615
        · have ew : addW x (one y) i = 0 := by unfold addW; rw [o1, hc.out, m]
          have ec : addC x (one y) (i + 1) = 1 := by rw [addC, o1, hc.out, m]
          rw [m] at lx
          clear bx
          go_wp2
          refine ⟨⟨i + 1, by omega, h, by simp, Lib.hid ec, Lib.hid (hb.out.put 0 ew.symm), Lib.hid (ho.out.set _ _)⟩, ?_⟩
          simp only [intOf]
          omega
        · have m' : ¬ ((x i : Int) = 18446744073709551615) := by omega
          have ew : x i + 1 = addW x (one y) i := by unfold addW; rw [o1, hc.out]; omega
          have ec : addC x (one y) (i + 1) = 0 := by rw [addC, o1, hc.out]; omega
          have ecn : addC x (one y) n = 0 := by
            have r := add_rest WX.out (i := i) (by omega) ec (n - (i + 1)) (by omega)
            rw [show i + 1 + (n - (i + 1)) = n by omega] at r
            exact r
          have HB := Lib.hid (rest_same HZ.out HXX.out (hb.out.put (x i + 1) ew) (by omega) (fun j h1 h2 => add_rest_w WX.out ec (by omega) h2))
          have ev : ((x i + 1 : Nat) : Int) = (x i : Int) + 1 := by omega
          rw [ev] at HB
          clear ew ec
          go_wp2_with fail
          go_quiet (fail)
          go_wp2
          go_ret
          exact ⟨by rw [ecn]; rfl, HB.out.drewN _, (ho.out.set _ _).drewN _⟩
      · obtain rfl : i = n := by omega
        go_wp2
        go_ret
        exact ⟨by rw [hc.out]; rfl, hb.out, ho.out⟩

set_option maxHeartbeats 2000000 in
/-- Into another block. -/
theorem addVW_far (gz oz cz gx ox cx n C y : Nat) (x f : Nat → Nat) (w : World) (hz : Blk w gz C f) (hC : oz + n ≤ C) (hx : WR w gx ox n x) (hne : gx ≠ gz) (hX : ∃ cs, w.heap[gx]? = some (.cells cs 71 (0, 0))) (wx : Wds x n) (hy : y < 18446744073709551616) (h1 : 1 ≤ n) (hn : n ≤ 1000000) (hcz : n ≤ cz) (hcx : n ≤ cx) :
    Calls Tryz.prog 44 #[.slice (some ⟨gz, oz, none⟩) n cz, .slice (some ⟨gx, ox, none⟩) n cx, .int .u64 (y : Int)] w fun e w' =>
      e = .returned (.int .u64 (addC x (one y) n : Int)) ∧ Blk w' gz C (put f oz n (addW x (one y))) ∧ Only w w' gz := by
  have HA := Lib.hid (fun W => bits_add (x 0) y 0 (wx 0 (by omega)) hy (by omega) W)
  have e1 : (x 0 + y + 0) % 18446744073709551616 = addW x (one y) 0 := rfl
  have e2 : (x 0 + y + 0) / 18446744073709551616 = addC x (one y) 1 := rfl
  rw [e1, e2] at HA
  have HX := Lib.hid (fun wr i hb ho j h1 h2 => row_keep (wr := wr) (i := i) (z := addW x (one y)) hx hz hb ho (Or.inl hne) hC j h1 h2)
  have HZ := Lib.hid hz
  have HXX := Lib.hid hx
  have WX := Lib.hid wx
  have HC := Lib.hid hC
  have HP : Hid (∀ W o1 o2 F, Blk W gz C F → Only w W gz → ∀ m, (binOp .neq 85 (.pointer (some ⟨gz, o1, none⟩)) (.pointer (some ⟨gx, o2, none⟩))).run Tryz.prog (W.drewN m) = .ok (.bool true) (W.drewN m)) := Lib.hid (fun W o1 o2 F hb ho m => by
    obtain ⟨cs, hcs⟩ := hX
    obtain ⟨cz, hcz, _⟩ := hb
    exact wptr_neq gz o1 gx o2 (fun e => hne e.symm) cz cs _ (by rw [heap_drewN]; exact hcz) (by rw [heap_drewN, ho.2.1 gx hne]; exact hcs))
  have HCP : Hid (∀ (W : World) (F : Nat → Nat) (i : Nat) (a1 a2 : Addr), Blk W gz C F → Only w W gz → i ≤ n → (i < cz → a1 = ⟨gz, oz + i, none⟩) → (i < cx → a2 = ⟨gx, ox + i, none⟩) → _) := Lib.hid (fun W F i a1 a2 hb ho hi e1 e2 => copy_rest gz oz cz gx ox cx n i C x F W hb (ho.wr hne hx) hC hi hcz hcx a1 a2 e1 e2)
  have h0 : Hid (Blk w gz C (put f oz 0 (addW x (one y)))) := Lib.hid (by rw [put_none]; exact hz)
  have x0 := hx 0 (by omega)
  have z0 := hz.cell (oz + 0) (by omega)
  have f0 := hz.frozen (oz + 0)
  have e0 := addC_le (wx.le h1) ((one_wds y n hy).le h1)
  have n0 : ¬ ((n : Int) = 0) := by omega
  have n1 : (0 : Int) < (n : Int) := by omega
  clear e1 e2 hx hz wx hC hX
  rw [Nat.add_zero] at x0 f0 z0
  go_enter Tryz.func44, Tryz.ntmps44
  go_wp2_with fail
  refine (HA.out _).mono ?_; rintro e w1 ⟨rfl, rfl⟩
  have H1 : Hid (Blk (w1.setCell ⟨gz, oz, none⟩ (.int .u64 (addW x (one y) 0 : Int))) gz C (put f oz 1 (addW x (one y)))) := Lib.hid (h0.out.put (addW x (one y) 0) rfl)
  have HO : Hid (Only w1 (w1.setCell ⟨gz, oz, none⟩ (.int .u64 (addW x (one y) 0 : Int))) gz) := Lib.hid ((Only.refl _ _).set _ _)
  by_cases c : addC x (one y) 1 = 0
  · have c' : ((addC x (one y) 1 : Nat) : Int) = 0 := by omega
    have ec : addC x (one y) n = 0 := by
      have r := add_rest WX.out (i := 0) (by omega) c (n - 1) (by omega)
      rw [show 0 + 1 + (n - 1) = n by omega] at r
      exact r
    have hr : ∀ j, 1 ≤ j → j < n → addW x (one y) j = x j := fun j h1 h2 => add_rest_w WX.out c (by omega) h2
    have HR := Lib.hid hr
    have EC := Lib.hid ec
    obtain ⟨a1, ea1, s1⟩ := slice_from 33 Tryz.underlying33 gz oz n cz 1 h1
    obtain ⟨a2, ea2, s2⟩ := slice_from 33 Tryz.underlying33 gx ox n cx 1 h1
    rw [show ((1 : Nat) : Int) = 1 from rfl] at s1 s2
    have EA1 := Lib.hid ea1
    have EA2 := Lib.hid ea2
    clear c HA e0 ec hr ea1 ea2
    go_wp2_with fail
    generalize w1.setCell ⟨gz, oz, none⟩ (.int .u64 (addW x (one y) 0 : Int)) = W at *
    have np := HP.out W oz ox _ H1.out HO.out
    go_quiet (fail)
    go_wp2_with fail
    obtain ⟨w', hr2, hb2, ho2⟩ := HCP.out (W.drewN nq).drew _ 1 a1 a2 (H1.out.drewN (nq + 1)) (HO.out.drewN (nq + 1)) h1 EA1.out EA2.out
    have HB := Lib.hid (rest_copied hb2 h1 HR.out)
    have HO2 := Lib.hid ((HO.out.drewN (nq + 1)).trans ho2)
    clear hb2 ho2
    go_region_law (refine step_copy_eq (by rfl) (.tmp 40) (.tmp 42) 33 33 (by rfl) (.slice (some a1) (n - 1) (cz - 1)) (.slice (some a2) (n - 1) (cx - 1)) (by simp [Act.eval, Act.put]) (by simp [Act.eval, Act.put]) hr2 ?_)
    all_goals
      go_simp
      go_wp2
      go_ret
      exact ⟨by rw [EC.out]; rfl, HB.out, HO2.out⟩
  · have c' : ¬ (((addC x (one y) 1 : Nat) : Int) = 0) := by omega
    have c1 : addC x (one y) 1 = 1 := by omega
    have C1 := Lib.hid c1
    clear c c1 h0 HA e0
    go_wp2_with fail
    go_loopw [9] (fun k wr => ∃ i : Nat, 1 ≤ i ∧ i ≤ n ∧ k = .int .i64 i ∧ Hid (addC x (one y) i = 1) ∧ Hid (Blk wr gz C (put f oz i (addW x (one y)))) ∧ Hid (Only w1 wr gz)) (fun k _ => n - (intOf k).toNat)
    case atStart => exact ⟨1, Nat.le_refl _, h1, rfl, C1, H1, HO⟩
    case round =>
      obtain ⟨i, hi1, hi, rfl, hc, hb, ho⟩ := hrel
      rcases Nat.lt_or_ge i n with h | h
      · have lx := HX.out _ i hb.out ho.out i (Nat.le_refl _) h
        have lz := hb.out.cell (oz + i) (by have := HC.out; omega)
        have lf := hb.out.frozen (oz + i)
        have lz0 := hb.out.cell oz (by have := HC.out; omega)
        have lx0 : wr.cell? ⟨gx, ox, none⟩ = some (.int .u64 (x 0 : Int)) := by rw [ho.out.cell hne]; exact x0
        have bx := WX.out i h
        have o1 : one y i = 0 := if_neg (by omega)
        by_cases m : x i = 18446744073709551615
        · have ew : addW x (one y) i = 0 := by unfold addW; rw [o1, hc.out, m]
          have ec : addC x (one y) (i + 1) = 1 := by rw [addC, o1, hc.out, m]
          rw [m] at lx
          clear bx
          go_wp2
          refine ⟨⟨i + 1, by omega, h, by simp, Lib.hid ec, Lib.hid (hb.out.put 0 ew.symm), Lib.hid (ho.out.set _ _)⟩, ?_⟩
          simp only [intOf]
          omega
        · have m' : ¬ ((x i : Int) = 18446744073709551615) := by omega
          have ew : x i + 1 = addW x (one y) i := by unfold addW; rw [o1, hc.out]; omega
          have ec : addC x (one y) (i + 1) = 0 := by rw [addC, o1, hc.out]; omega
          have ecn : addC x (one y) n = 0 := by
            have r := add_rest WX.out (i := i) (by omega) ec (n - (i + 1)) (by omega)
            rw [show i + 1 + (n - (i + 1)) = n by omega] at r
            exact r
          have HR : Hid (∀ j, i + 1 ≤ j → j < n → addW x (one y) j = x j) := Lib.hid (fun j h1 h2 => add_rest_w WX.out ec (by omega) h2)
          have EC := Lib.hid ecn
          have HB := Lib.hid (hb.out.put (x i + 1) ew)
          have ev : ((x i + 1 : Nat) : Int) = (x i : Int) + 1 := by omega
          rw [ev] at HB
          have HO' := Lib.hid (ho.out.set (oz + i) (.int .u64 ((x i : Int) + 1)))
          obtain ⟨a1, ea1, s1⟩ := slice_from 33 Tryz.underlying33 gz oz n cz (i + 1) h
          obtain ⟨a2, ea2, s2⟩ := slice_from 33 Tryz.underlying33 gx ox n cx (i + 1) h
          have EA1 := Lib.hid ea1
          have EA2 := Lib.hid ea2
          have ei : ((i + 1 : Nat) : Int) = (i : Int) + 1 := by omega
          rw [ei] at s1 s2
          clear ew ec ecn ea1 ea2 ei ev C1 H1 HO
          go_wp2_with fail
          generalize wr.setCell ⟨gz, oz + i, none⟩ (.int .u64 ((x i : Int) + 1)) = W at *
          have np := HP.out W oz ox _ HB.out HO'.out
          go_quiet (fail)
          go_wp2_with fail
          obtain ⟨w', hr2, hb2, ho2⟩ := HCP.out (W.drewN nq).drew _ (i + 1) a1 a2 (HB.out.drewN (nq + 1)) (HO'.out.drewN (nq + 1)) h EA1.out EA2.out
          have HB2 := Lib.hid (rest_copied hb2 h HR.out)
          have HO2 := Lib.hid ((HO'.out.drewN (nq + 1)).trans ho2)
          clear hb2 ho2
          have ewr : IntKind.i64.wrap ((i : Int) + 1) = (i : Int) + 1 := IntWalk.i64_in _ (by omega)
          go_region_law (refine step_copy_eq (by rfl) (.tmp 69) (.tmp 73) 33 33 (by rfl) (.slice (some a1) (n - (i + 1)) (cz - (i + 1))) (.slice (some a2) (n - (i + 1)) (cx - (i + 1))) (by simp [Act.eval, Act.put]) (by simp [Act.eval, Act.put]) hr2 ?_)
          all_goals
            go_simp
            go_wp2
            go_ret
            exact ⟨by rw [EC.out]; rfl, HB2.out, HO2.out⟩
      · obtain rfl : i = n := by omega
        go_wp2
        go_ret
        exact ⟨by rw [hc.out]; rfl, hb.out, ho.out⟩
end Go.Proofs.YtmkdcnemocdefaaGreatFmt
