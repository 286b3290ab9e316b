/- The parts of lit pixels: the walk of spots.Label. -/
import Derived.Test.YthbekddpnkammaaGreatDoorLabel
namespace Go.Proofs.YthbekddpnkammaaGreatDoor
open Go.RowKit

theorem new_cell (W : World) (g : Nat) (hg : W.heap.size = g) (x : Value) (T : TypeId) : (W.alloc (.cells #[x] T)).cell? ((⟨g, 0, none⟩ : Addr).add 0) = some x := by subst hg; simp [Addr.add]
/-- The neighbours' row, apart from the stack's. -/
def Nb (B2 : Nat) (a : Option Addr) (nl cap : Nat) (L : List Int) (g : Nat) (wr : World) : Prop := wr.ownsRow B2 3 1 (.slice a nl cap) nl (L.map (Value.int .i64)) ∧ (Value.slice a nl cap).ownBlock ≠ some g ∧ L.length = nl
theorem Nb.at {B2 nl cap g j : Nat} {a : Option Addr} {L : List Int} {wr : World} (h : Nb B2 a nl cap L g wr) (hj : j < nl) : ∃ g3, a = some ⟨g3, 0, none⟩ ∧ wr.cell? ⟨g3, j, none⟩ = some (.int .i64 (L.getD j 0)) := by
  rcases h.1.2 with ⟨e, h0⟩ | ⟨g3, cap3, cur, e, _⟩
  · omega
  · simp only [Value.slice.injEq, true_and] at e
    obtain ⟨rfl, rfl⟩ := e
    refine ⟨g3, rfl, ?_⟩
    have hj' : j < L.length := by rw [h.2.2]; exact hj
    rw [h.1.cellAt j (by omega), List.getElem?_map, List.getElem?_eq_getElem hj', List.getD_eq_getElem?_getD, List.getElem?_eq_getElem hj']
    rfl
theorem Nb.store {B B2 nl cap g i : Nat} {a : Option Addr} {L : List Int} {wr : World} {v : Value} (h : Nb B2 a nl cap L g wr) (hB : B < B2) : Nb B2 a nl cap L g (wr.setCell ⟨B, i, none⟩ v) :=
  ⟨ownsRow_setCell_below h.1 (a := ⟨B, i, none⟩) hB v, h.2.1, h.2.2⟩
theorem Nb.alloc {B2 nl cap g : Nat} {a : Option Addr} {L : List Int} {wr : World} (h : Nb B2 a nl cap L g wr) (o : Obj) : Nb B2 a nl cap L g (wr.alloc o) := ⟨h.1.alloc o, h.2.1, h.2.2⟩
theorem Nb.grown {B2 nl cap g g' : Nat} {a : Option Addr} {L : List Int} {wr w1 : World} (h : Nb B2 a nl cap L g wr) (hg : wr.grownBy w1 (some g)) (hat : g' = g ∨ g' = wr.heap.size) : Nb B2 a nl cap L g' w1 := by
  refine ⟨h.1.kept hg (Or.inr h.2.1), fun e => ?_, h.2.2⟩
  rcases hat with rfl | rfl
  · exact h.2.1 e
  · have := (h.1.lt _ e).2; omega

set_option maxRecDepth 10000 in
set_option maxHeartbeats 8000000 in
theorem label_any (lit : Nat → Bool) (n wide : Nat) (hw : 0 < wide) (hd : n % wide = 0) (hn : n ≤ 65536) (pa : Option Addr) (ca : Nat) (w : World) (hL : Bools w pa n lit) :
    Calls Tryz.prog 53 #[.slice pa n ca, .int .i64 wide] w fun e w' => ∃ M : Nat → Nat, e = .returned (.tuple #[.slice (some ⟨w.heap.size, 0, none⟩) n n, .int .i64 (rc lit wide n n : Nat), .nilIface]) ∧ WR w w.heap.size n M w' ∧ FI lit wide n n M := by
  obtain ⟨i0, hi, hz0, hz1, hz2⟩ := info_parts info_int'
  have HL := Lib.hid (fun k (hk : k < n) => hL.at hk)
  have hw0 : ((wide : Int) == 0) = false := by simp; omega
  have hm0 : ((n : Int) % wide != 0) = false := by
    have : ((n % wide : Nat) : Int) = (n : Int) % wide := Int.natCast_emod ..
    rw [bne_eq_false_iff_eq]; omega
  have hwn : 0 < n → wide ≤ 65536 := fun h => by
    have := Nat.le_of_dvd h (Nat.dvd_of_mod_eq_zero hd)
    omega
  have HWN := Lib.hid hwn
  have hdn : decide (65536 < (n : Int)) = false := by simp; omega
  have hdw : decide ((wide : Int) < 1) = false := by simp; omega
  clear hL hd hwn
  go_enter Tryz.func53, Tryz.ntmps53
  go_wp2_with (refine wpList_make_full _ rfl (.tmp 30) (.tmp 30) 29 rfl w.heap.size 3 i0 (.int .i64 0) 1 Tryz.underlying29 hi hz0 hz1 .i64 .i64 (n : Int) (n : Int) n rfl rfl rfl rfl (by rw [hz2]; omega) (by unfold maxLen; omega) (Nat.le_refl _) ?_; intro w1 hown hgrow)
  have HW0 : Hid (WR w w.heap.size n (fun _ => 0) w1) := Lib.hid ⟨outC_made hown, (Below.refl _ _).grown hgrow (Nat.le_refl _) (fun j hj => by cases hj), (hown.lt _ rfl).2, rfl⟩
  clear hown hgrow
  go_wp2
  go_loopw [8, 34] (fun c i wr => ∃ (k : Nat) (M : Nat → Nat), k ≤ n ∧ i = .int .i64 k ∧ c = .int .i64 (rc lit wide n k : Nat) ∧ Hid (FI lit wide n k M) ∧ Hid (WR w w.heap.size n M wr)) (fun _ i _ => n - (intOf i).toNat)
  case atStart => exact ⟨0, fun _ => 0, Nat.zero_le _, rfl, rfl, FI.zero, HW0⟩
  case round =>
    obtain ⟨k, M, hk, rfl, rfl, hF, hW⟩ := hrel
    clear HW0
    by_cases hlt : k < n
    · have hdk : decide ((k : Int) < n) = true := by simp; omega
      obtain ⟨b, o, rfl, hb, hc⟩ := HL.out k hlt
      have c1 : wr.cell? ⟨b, o + k, none⟩ = some (.bool (lit k)) := by rw [hW.out.2.1.cell (p := ⟨b, o + k, none⟩) hb]; exact hc
      obtain ⟨c2, f2⟩ := hW.out.1 k hlt
      have hrk : rc lit wide n k ≤ 65536 := by have := rc_le (lit := lit) (wide := wide) (n := n) k; omega
      clear hc
      cases hlk : lit k with
      | false =>
        rw [hlk] at c1
        have hnr : ¬ Root lit wide n k := fun h => by have := h.1; rw [hlk] at this; cases this
        have HF := Lib.hid (hF.out.pass hnr)
        have HE := Lib.hid (rc_not hnr)
        clear hnr hlk hF
        go_wp2
        go_roundw
        case rel => exact ⟨k + 1, M, by omega, by go_num, by rw [HE.out], HF, hW⟩
        case measure => simp [intOf]; omega
      | true =>
        rw [hlk] at c1
        by_cases h0 : M k = 0
        · have hr := hF.out.root hlk hlt h0
          rw [h0] at c2
          have hFJ := hF.out
          have hJ0 := FJ.start hw hF.out hr
          have HRC := Lib.hid (rc_root hr)
          have HJ0 := Lib.hid hJ0
          have hW1 := (hW.out.put hlt (rc lit wide n (k + 1)))
          have hzc : zc (putF M k (rc lit wide n (k + 1))) n + 1 = zc M n := zc_put hlt h0 (rc_pos hr)
          have hzn := zc_le M n
          have HZ : Hid (2 * zc (putF M k (rc lit wide n (k + 1))) n + 1 ≤ 131072) := Lib.hid (by omega)
          have hcast : ((rc lit wide n (k + 1) : Nat) : Int) = (rc lit wide n k : Nat) + 1 := by rw [HRC.out]; rfl
          rw [hcast] at hW1
          have hsz := hW1.2.2.1
          have es : (wr.setCell ⟨w.heap.size, k, none⟩ (.int .i64 ((rc lit wide n k : Nat) + 1))).heap.size = wr.heap.size := by simp
          have hown := World.ownsRow_lit (base := w.heap.size + 1) (e := 3) (size := 1) (wr.setCell ⟨w.heap.size, k, none⟩ (.int .i64 ((rc lit wide n k : Nat) + 1))) #[.int .i64 (k : Int)] 1 hsz (by unfold maxLen; omega) rfl
          rw [es] at hown
          have HS1 : Hid (Stk w.heap.size wr.heap.size 1 1 [k] ((wr.setCell ⟨w.heap.size, k, none⟩ (.int .i64 ((rc lit wide n k : Nat) + 1))).alloc (.cells #[.int .i64 k] 3))) := Lib.hid ⟨hown, rfl⟩
          have HW1 := Lib.hid (hW1.alloc (.cells #[.int .i64 k] 3))
          have HCA := Lib.hid hcast
          have HWI := Lib.hid (HWN.out (by omega))
          clear hF hJ0 hW1 hzc hzn hFJ hsz hcast h0 hlk hW hown es
          go_wp2
          go_loopw [11] (fun v wr2 => ∃ (g len cap : Nat) (S : List Nat) (M2 : Nat → Nat), v = .slice (some ⟨g, 0, none⟩) len cap ∧ len ≤ 131072 ∧ Hid (2 * zc M2 n + len ≤ 131072) ∧ Hid (FJ lit wide n k M2 S none) ∧ Hid (WR w w.heap.size n M2 wr2) ∧ Hid (Stk w.heap.size g len cap S wr2)) (fun v wr2 => 2 * zcW wr2 w.heap.size n + lenOf v)
          case atStart => exact ⟨wr.heap.size, 1, 1, [k], _, rfl, by omega, HZ, HJ0, HW1, HS1⟩
          case round =>
            clear HZ HJ0 HW1 HS1 c1 c2 f2
            generalize wr = wr2 at *
            obtain ⟨g, len, cap, S, M2, rfl, hlb, hZ, hJ, hW, hS⟩ := hrel
            by_cases hl0 : len = 0
            · subst hl0
              have hS0 : S = [] := List.eq_nil_of_length_eq_zero hS.out.2
              subst hS0
              have HF2 := Lib.hid (hJ.out.stop hw)
              clear hJ hS hZ
              go_wp2
              go_roundw
              case rel => exact ⟨k + 1, M2, by omega, by go_num, by rw [HCA.out], HF2, hW⟩
              case measure => simp [intOf]; omega
            · obtain ⟨l, rfl⟩ : ∃ l, len = l + 1 := ⟨len - 1, by omega⟩
              have hSne : S ≠ [] := fun h => by have := hS.out.2; rw [h] at this; simp at this
              obtain ⟨S', p, rfl⟩ : ∃ S' p, S = S' ++ [p] := ⟨S.dropLast, S.getLast hSne, (List.dropLast_concat_getLast hSne).symm⟩
              have hp := hJ.out.stack p (List.mem_append_right _ (List.mem_singleton.2 rfl))
              have hpn := hp.1.lit2.2
              have ct := hS.out.top
              have hdl : decide (0 < ((l + 1 : Nat) : Int)) = true := by simp
              have hdl2 : 0 < l + 1 := by omega
              have HJP := Lib.hid hJ.out.pop
              have HSP := Lib.hid hS.out.pop
              have HAR := Lib.hid (fun W => around_any wide n p hw hpn hn HWI.out W)
              have HZ2 : Hid (2 * zcW wr2 w.heap.size n + (l + 1) = 2 * zc M2 n + (l + 1)) := Lib.hid (by rw [zcW_eq hW.out.1 n (Nat.le_refl _)])
              obtain ⟨hcap, hgB, hgS⟩ := hS.out.cap
              clear hp hJ hS hSne hl0
              go_wp2_with fail
              refine (HAR.out _).mono ?_; rintro e w3 ⟨v3, rfl, hG⟩
              obtain ⟨a3, cap3, rfl, _⟩ := hG.row
              have hN : Nb wr2.heap.size a3 (nbs wide n p).length cap3 (nbs wide n p) g w3 := ⟨hG.1, fun e => by have := (hG.1.lt g e).1; omega, rfl⟩
              have HN := Lib.hid hN
              have HW3 := Lib.hid (hW.out.below hG.2)
              have HS3 := Lib.hid (HSP.out.below hG.2)
              have hnl := nbs_len wide n p
              have HM := Lib.hid (fun z => mem_nbs hw hpn z)
              have hB2 : w.heap.size < wr2.heap.size := hW.out.2.2.1
              clear hN hG HAR HSP hW ct
              generalize hNLE : (nbs wide n p).length = nl at *
              have HNLE := Lib.hid hNLE
              clear hNLE
              go_wp2
              go_loopw [11, 76] (fun v t wr3 => ∃ (j g len cap : Nat) (S : List Nat) (M3 : Nat → Nat), t = .int .i64 j ∧ j ≤ nl ∧ v = .slice (some ⟨g, 0, none⟩) len cap ∧ len ≤ 131072 ∧ Hid (2 * zc M3 n + len + 1 ≤ 2 * zc M2 n + (l + 1)) ∧ Hid (FJ lit wide n k M3 S (some (p, j))) ∧ Hid (WR w w.heap.size n M3 wr3) ∧ Hid (Stk w.heap.size g len cap S wr3) ∧ Hid (Nb wr2.heap.size a3 nl cap3 (nbs wide n p) g wr3)) (fun _ t _ => nl - (intOf t).toNat)
              case atStart => exact ⟨0, g, l, cap, S', M2, rfl, Nat.zero_le _, rfl, by omega, Lib.hid (by omega), HJP, HW3, HS3, HN⟩
              case round =>
                clear HJP HW3 HS3 HN hgB hgS hcap hlb hdl hdl2
                generalize wr = wr4 at *
                obtain ⟨j, g, len, cap, S, M3, rfl, hj, rfl, hlb, hZ3, hJ, hW, hS, hN⟩ := hrel
                by_cases hjl : j < nl
                · have hdj : decide ((j : Int) < nl) = true := by simp; omega
                  have hmem : (nbs wide n p).getD j 0 ∈ nbs wide n p := by
                    have hj2 : j < (nbs wide n p).length := by rw [HNLE.out]; exact hjl
                    rw [List.getD_eq_getElem?_getD, List.getElem?_eq_getElem hj2]
                    exact List.getElem_mem _
                  obtain ⟨m, hm, ha⟩ := (HM.out _).1 hmem
                  obtain ⟨g3, rfl, c3⟩ := hN.out.at hjl
                  rw [hm] at c3
                  have hmn := ha.2.1
                  obtain ⟨b2, o2, hab, hb2, hc2⟩ := HL.out m hmn
                  injection hab with hab
                  injection hab with e1 e2
                  subst e1
                  subst e2
                  have c4 : wr4.cell? ⟨b, o + m, none⟩ = some (.bool (lit m)) := by rw [hW.out.2.1.cell (p := ⟨b, o + m, none⟩) hb2]; exact hc2
                  obtain ⟨c5, f5⟩ := hW.out.1 m hmn
                  clear hmem hc2 hb2
                  cases hlm : lit m with
                  | false =>
                    rw [hlm] at c4
                    have HJ2 := Lib.hid (hJ.out.skip hm (fun h => by rw [hlm] at h; cases h))
                    clear hJ ha hm hlm
                    go_wp2
                    go_roundw
                    case rel => exact ⟨j + 1, g, len, cap, S, M3, by go_num, by omega, rfl, hlb, hZ3, HJ2, hW, hS, hN⟩
                    case measure => simp [intOf]; omega
                  | true =>
                    rw [hlm] at c4
                    by_cases h0 : M3 m = 0
                    · have hJ2 := hJ.out.push hm ha hlm h0
                      have HJ2 := Lib.hid hJ2
                      have hzp := zc_put hmn h0 (rc_pos hr)
                      have hz3 := hZ3.out
                      have hz := hZ.out
                      have HZ3 : Hid (2 * zc (putF M3 m (rc lit wide n (k + 1))) n + (len + 1) + 1 ≤ 2 * zc M2 n + (l + 1)) := Lib.hid (by omega)
                      have hlb2 : len + 1 ≤ 131072 := by omega
                      have hW1 := hW.out.put hmn (rc lit wide n (k + 1))
                      rw [HCA.out] at hW1
                      rw [h0] at c5
                      have hS1 : Stk w.heap.size g len cap S (wr4.setCell ⟨w.heap.size, m, none⟩ (.int .i64 ((rc lit wide n k : Nat) + 1))) := hS.out.store
                      have hN1 : Nb wr2.heap.size (some ⟨g3, 0, none⟩) nl cap3 (nbs wide n p) g (wr4.setCell ⟨w.heap.size, m, none⟩ (.int .i64 ((rc lit wide n k : Nat) + 1))) := hN.out.store hB2
                      have hgB := hS.out.cap.2.1
                      have hsz4 := hW.out.2.2.1
                      have HW1 := Lib.hid hW1
                      have HS1 := Lib.hid hS1
                      have HN1 := Lib.hid hN1
                      have HOS := Lib.hid (fun o => World.ownsRow.alloc hS1.1 o)
                      have HC1 : Hid (∀ j u, [Value.int .i64 (m : Int)][j]? = some u → ((wr4.setCell ⟨w.heap.size, m, none⟩ (.int .i64 ((rc lit wide n k : Nat) + 1))).alloc (.cells #[.int .i64 (m : Int)] 3)).cell? ((⟨wr4.heap.size, 0, none⟩ : Addr).add j) = some u) := Lib.hid (by
                        intro j u hj
                        match j, hj with
                        | 0, hj => simp at hj; subst hj; exact new_cell _ _ (by simp) _ _)
                      have HC2 : Hid (∀ u ∈ [Value.int .i64 (m : Int)], u.oneCell' = true) := Lib.hid (by
                        intro u hu
                        simp only [List.mem_cons, List.not_mem_nil, or_false] at hu
                        subst hu; rfl)
                      have HC3 : Hid (len + 1 ≤ maxLen) := Lib.hid (by unfold maxLen; omega)
                      have HC4 : Hid ((len + 1) * 8 ≤ 140737488355328) := Lib.hid (by omega)
                      have HC5 : Hid (w.heap.size + 1 ≤ ((wr4.setCell ⟨w.heap.size, m, none⟩ (.int .i64 ((rc lit wide n k : Nat) + 1))).alloc (.cells #[.int .i64 (m : Int)] 3)).heap.size) := Lib.hid (by simp; omega)
                      clear hJ2 hzp hz3 hz hW1 hS1 hN1 hJ hZ3 hW hS hN ha hm hlm h0
                      go_wp2_with (first
                        | (at_builtin; refine wpList_append_own_at _ rfl _ _ 29 rfl (w.heap.size + 1) 3 i0 (.int .i64 0) 1 8 Tryz.underlying29 hi hz0 hz1 hz2 rfl (by decide) (.slice (some ⟨g, 0, none⟩) len cap) len (S.map (fun s : Nat => Value.int .i64 (s : Int))) rfl (HOS.out _) ⟨wr4.heap.size, 0, none⟩ 1 1 [.int .i64 (m : Int)] rfl rfl HC1.out HC2.out HC3.out HC4.out HC5.out ?_; intro v' w5 hown hgrow hnil hat)
                        | fail)
                      obtain ⟨g', cap', rfl, hS2⟩ := HS1.out.push (o := .cells #[] 3) hown (fun e => by first | exact hnil e | exact absurd (hnil.1 e).2 (by decide))
                      have HS2 := Lib.hid hS2
                      have HW2 := Lib.hid ((HW1.out.alloc _).grown hgrow (fun x hx => by simp [Value.ownBlock] at hx; omega))
                      have HN2 := Lib.hid ((HN1.out.alloc _).grown hgrow (by simpa [Value.ownBlock] using hat))
                      clear hown hgrow hnil hat hS2 HS1 HW1 HN1 HOS
                      go_wp2
                      go_roundw
                      case rel => exact ⟨j + 1, g', len + 1, cap', S ++ [m], _, by go_num, by omega, rfl, hlb2, HZ3, HJ2, HW2, HS2, HN2⟩
                      case measure => simp [intOf]; omega
                    · have HJ2 := Lib.hid (hJ.out.skip hm (fun _ => h0))
                      have hb0 : (((M3 m : Nat) : Int) == 0) = false := by simp; omega
                      clear hJ ha hm hlm h0
                      go_wp2
                      go_roundw
                      case rel => exact ⟨j + 1, g, len, cap, S, M3, by go_num, by omega, rfl, hlb, hZ3, HJ2, hW, hS, hN⟩
                      case measure => simp [intOf]; omega
                · obtain rfl : j = nl := by omega
                  have hJ2 := hJ.out
                  rw [← HNLE.out] at hJ2
                  have HJ2 := Lib.hid (hJ2.done hw)
                  have HMS : Hid (2 * zcW wr4 w.heap.size n + len < 2 * zcW wr2 w.heap.size n + (l + 1)) := Lib.hid (by rw [zcW_eq hW.out.1 n (Nat.le_refl _)]; have := hZ3.out; have := HZ2.out; omega)
                  have HZ4 : Hid (2 * zc M3 n + len ≤ 131072) := Lib.hid (by have := hZ3.out; have := hZ.out; omega)
                  clear hJ2 hJ hN hZ3
                  go_wp2
                  go_roundw
                  case rel => exact ⟨g, len, cap, S, M3, rfl, hlb, HZ4, HJ2, hW, hS⟩
                  case measure => exact HMS.out
        · have hnr := hF.out.notRoot hlt h0
          have HF := Lib.hid (hF.out.pass hnr)
          have HE := Lib.hid (rc_not hnr)
          have hpos : 0 < M k := by omega
          clear hnr hlk hF h0
          go_wp2
          go_roundw
          case rel => exact ⟨k + 1, M, by omega, by go_num, by rw [HE.out], HF, hW⟩
          case measure => simp [intOf]; omega
    · obtain rfl : k = n := by omega
      go_wp2
      go_ret3
      exact ⟨M, rfl, hW.out, hF.out⟩
end Go.Proofs.YthbekddpnkammaaGreatDoor
