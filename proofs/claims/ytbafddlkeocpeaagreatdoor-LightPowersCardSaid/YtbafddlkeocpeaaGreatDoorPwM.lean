/- The law LightPowers, where Power answers an error. -/
import Derived.Test.YtbafddlkeocpeaaGreatDoorPwL
import Derived.Deep.CutBlock
import Derived.Deep.DeepCutAuto
namespace Go.Proofs.YtbafddlkeocpeaaGreatDoor
open Go.RowKit Ieee

theorem large_b (t : Int) : ∃ b : Bool, (b = true ↔ Far t) ∧ ∀ W, Calls Tryz.prog 5 #[.int .i64 t] W fun e w' => e = .returned (.bool b) ∧ w' = W := by
  by_cases h : Far t
  · exact ⟨true, ⟨fun _ => h, fun _ => rfl⟩, fun W => large_yes t h W⟩
  · exact ⟨false, ⟨fun h1 => (by cases h1), fun h1 => absurd h1 h⟩, fun W => large_no t h W⟩
theorem IRow.later {w : World} {a : Option Addr} {len : Nat} {f : Nat → Int} (h : IRow w a len f) {j : Nat} (hj : j < len) : ∀ W, Below w.heap.size w W → ∃ b off, a = some ⟨b, off, none⟩ ∧ b < W.heap.size ∧ W.cell? ⟨b, off + j, none⟩ = some (.int .i64 (f j)) := fun _ hb => (h.below hb).at hj
def BadIs (bb : Bool) (P : Prop) : Prop := bb = true ↔ P
def Shaped (n m : Nat) : Prop := n ≠ m ∨ n = 0

set_option maxHeartbeats 8000000 in
set_option maxRecDepth 20000 in
theorem law_err (f : Nat → Int) (n m : Nat) (many step frm : Int) (at' al : Option Addr) (ct cl : Nat) (hns : ¬ Skips n m many) (er code : Nat) (hcode : Shaped n m ∧ er = 4 ∧ code = 5 ∨ ¬ Shaped n m ∧ Beyond f n many step frm ∧ er = 1 ∧ code = 2) (ad : Nat → Addr) (w : World) (hE : Sents w ad) (hT : IRow w at' n f)
    (hPW : ∀ W, Below w.heap.size w W → Calls Tryz.prog 4 #[.slice at' n ct, .slice al m cl, .int .i64 step, .int .i64 frm, .int .i64 many] W fun e w' => e = .returned (.tuple #[.slice none 0 0, errV ad er]) ∧ Below W.heap.size W w') :
    Calls Tryz.prog 3 #[.slice at' n ct, .slice al m cl, .int .i64 step, .int .i64 frm, .int .i64 many] w fun e w' => e = .returned (.bool true) ∧ Below w.heap.size w w' := by
  have HC := Lib.hid hcode
  clear hcode
  unfold errV at hPW
  have h9 := nine_eq
  have HP := Lib.hid (fun b1 b2 W h1 h2 => pre_any b1 b2 W h1 h2)
  have HK := Lib.hid (pre_cells w)
  have HB0 := Lib.hid (pre_below w)
  obtain ⟨b1, hb1, hl1⟩ := large_b step
  obtain ⟨b2, hb2, hl2⟩ := large_b frm
  have L1 := Lib.hid hl1
  have L2 := Lib.hid hl2
  have X1 := Lib.hid hb1
  have X2 := Lib.hid hb2
  have HE := Lib.hid hE
  have HX := Lib.hid (fun j (hj : j < n) => hT.later hj)
  have HY := Lib.hid (fun t h W => large_yes t h W)
  have HN := Lib.hid (fun t h W => large_no t h W)
  have HPW := Lib.hid hPW
  unfold Skips at hns
  have hn5 : (n : Int) ≤ 4005 := by omega
  have hm5 : (m : Int) ≤ 4005 := by omega
  have HNS := Lib.hid hns
  clear hl1 hl2 hb1 hb2 hE hT hPW hns
  go_enter Tryz.func3, Tryz.ntmps3
  go_wp2_with fail
  refine (HP.out _ _ _ HK.out.1 HK.out.2).mono ?_; rintro e w1 ⟨b, o, c, rfl, hc, hb⟩
  have HB1 := Lib.hid (HB0.out.trans (hb.mono HB0.out.size))
  clear hb HP HK HB0
  go_upto_region 4 with (fail)
  go_cut [67] (fun v wx => v = .bool false ∧ wx = w1)
  case first =>
    have hns := HNS.out
    clear hc h9
    by_cases a1 : n ≤ 60
    · have d1 : (n : Int) ≤ 60 := by omega
      by_cases a2 : m ≤ 60
      · have d2 : (m : Int) ≤ 60 := by omega
        by_cases a3 : many ≤ 40
        · clear hns a1 a2
          go_wp2
          go_meet
          first
            | exact ⟨rfl, rfl⟩
            | exact ⟨by simp; omega, rfl⟩
        · have d3 : 40 < many := by omega
          have d4 : 4000 < many := by omega
          clear hns a1 a2 a3
          go_wp2
          go_meet
          first
            | exact ⟨rfl, rfl⟩
            | exact ⟨by simp; omega, rfl⟩
      · have d2 : (60 : Int) < (m : Int) := by omega
        have d2' : (4000 : Int) < (m : Int) := by omega
        by_cases a3 : many ≤ 40
        · clear hns a1 a2
          go_wp2
          go_meet
          first
            | exact ⟨rfl, rfl⟩
            | exact ⟨by simp; omega, rfl⟩
        · have d3 : 40 < many := by omega
          have d4 : 4000 < many := by omega
          clear hns a1 a2 a3
          go_wp2
          go_meet
          first
            | exact ⟨rfl, rfl⟩
            | exact ⟨by simp; omega, rfl⟩
    · have d1 : (60 : Int) < (n : Int) := by omega
      have d1' : (4000 : Int) < (n : Int) := by omega
      by_cases a2 : m ≤ 60
      · have d2 : (m : Int) ≤ 60 := by omega
        by_cases a3 : many ≤ 40
        · clear hns a1 a2
          go_wp2
          go_meet
          first
            | exact ⟨rfl, rfl⟩
            | exact ⟨by simp; omega, rfl⟩
        · have d3 : 40 < many := by omega
          have d4 : 4000 < many := by omega
          clear hns a1 a2 a3
          go_wp2
          go_meet
          first
            | exact ⟨rfl, rfl⟩
            | exact ⟨by simp; omega, rfl⟩
      · have d2 : (60 : Int) < (m : Int) := by omega
        have d2' : (4000 : Int) < (m : Int) := by omega
        by_cases a3 : many ≤ 40
        · clear hns a1 a2
          go_wp2
          go_meet
          first
            | exact ⟨rfl, rfl⟩
            | exact ⟨by simp; omega, rfl⟩
        · have d3 : 40 < many := by omega
          have d4 : 4000 < many := by omega
          clear hns a1 a2 a3
          go_wp2
          go_meet
          first
            | exact ⟨rfl, rfl⟩
            | exact ⟨by simp; omega, rfl⟩
  case rest =>
  obtain ⟨rfl, rfl⟩ := hcut
  go_wp2_with fail
  refine (HPW.out _ HB1.out).mono ?_; rintro e w2 ⟨rfl, hb⟩
  have HB2 := Lib.hid (HB1.out.trans (hb.mono HB1.out.size))
  clear hb
  clear HB1 HPW hc h9
  go_wp2_with fail
  refine (L1.out _).mono ?_; rintro e w3 ⟨rfl, rfl⟩
  go_wp2_with fail
  refine (L2.out _).mono ?_; rintro e w4 ⟨rfl, rfl⟩
  clear L1 L2
  go_wp2
  go_loopw [14, 16] (fun v i wr => ∃ (j : Nat) (bb : Bool), j ≤ n ∧ i = .int .i64 j ∧ v = .bool bb ∧ Hid (BadIs bb (Far step ∨ ∃ q, q < j ∧ Far (f q))) ∧ wr = w4) (fun _ i _ => n - (intOf i).toNat)
  case atStart => exact ⟨0, b1, Nat.zero_le _, rfl, rfl, Lib.hid (⟨fun h => Or.inl (X1.out.1 h), fun h => by rcases h with h | ⟨q, hq, _⟩; exact X1.out.2 h; exact absurd hq (Nat.not_lt_zero _)⟩), rfl⟩
  case round =>
    obtain ⟨j, bb, hj, rfl, rfl, hbb, rfl⟩ := hrel
    by_cases hlt : j < n
    · obtain ⟨ba, oa, rfl, _, c1⟩ := HX.out j hlt wr HB2.out
      by_cases hf : Far (f j)
      · have F := Lib.hid (HY.out (f j) hf)
        have HB : Hid (BadIs true (Far step ∨ ∃ q, q < j + 1 ∧ Far (f q))) := Lib.hid ⟨fun _ => Or.inr ⟨j, Nat.lt_succ_self _, hf⟩, fun _ => rfl⟩
        clear hf
        cases bb
        all_goals
          go_wp2_with fail
          refine (F.out _).mono ?_; rintro e w5 ⟨rfl, rfl⟩
          go_wp2
          exact ⟨⟨j + 1, true, by omega, by simp, rfl, HB, trivial⟩, by simp [intOf]; omega⟩
      · have F := Lib.hid (HN.out (f j) hf)
        have HB : Hid (BadIs bb (Far step ∨ ∃ q, q < j + 1 ∧ Far (f q))) := Lib.hid (by
          refine ⟨fun h => ?_, fun h => hbb.out.2 ?_⟩
          · rcases hbb.out.1 h with h | ⟨q, h1, h2⟩
            · exact Or.inl h
            · exact Or.inr ⟨q, by omega, h2⟩
          · rcases h with h | ⟨q, h1, h2⟩
            · exact Or.inl h
            · by_cases e : q = j
              · rw [e] at h2; exact absurd h2 hf
              · exact Or.inr ⟨q, by omega, h2⟩)
        clear hf hbb
        cases bb
        all_goals
          go_wp2_with fail
          refine (F.out _).mono ?_; rintro e w5 ⟨rfl, rfl⟩
          go_wp2
          exact ⟨⟨j + 1, _, by omega, by simp, rfl, HB, trivial⟩, by simp [intOf]; omega⟩
    · have hjn : j = n := by omega
      subst hjn
      have HBy : Hid (BadIs (decide (4000 < j) || decide (many < 1) || decide (4000 < many) || bb || b2) (Beyond f j many step frm)) := Lib.hid (by
        unfold Beyond
        constructor
        · intro h
          simp only [Bool.or_eq_true, decide_eq_true_eq] at h
          rcases h with (((h | h) | h) | h) | h
          · exact Or.inl h
          · exact Or.inr (Or.inl h)
          · exact Or.inr (Or.inr (Or.inl h))
          · rcases hbb.out.1 h with h | h
            · exact Or.inr (Or.inr (Or.inr (Or.inl h)))
            · exact Or.inr (Or.inr (Or.inr (Or.inr (Or.inr h))))
          · exact Or.inr (Or.inr (Or.inr (Or.inr (Or.inl (X2.out.1 h)))))
        · intro h
          simp only [Bool.or_eq_true, decide_eq_true_eq]
          rcases h with h | h | h | h | h | h
          · exact Or.inl (Or.inl (Or.inl (Or.inl h)))
          · exact Or.inl (Or.inl (Or.inl (Or.inr h)))
          · exact Or.inl (Or.inl (Or.inr h))
          · exact Or.inl (Or.inr (hbb.out.2 (Or.inl h)))
          · exact Or.inr (X2.out.2 h)
          · exact Or.inl (Or.inr (hbb.out.2 (Or.inr h))))
      clear HNS HX HY HN hbb X1 X2
      rcases HC.out with ⟨hsh, rfl, rfl⟩ | ⟨hsh, hby, rfl, rfl⟩
      · have C := Lib.hid (coded4_err ad 4 5 (by decide) (by decide) wr (HE.out.below HB2.out))
        unfold errV at C
        unfold Shaped at hsh
        clear HC HBy
        by_cases h0 : j = m
        · subst h0
          have hj0 : j = 0 := by omega
          subst hj0
          clear hsh
          go_wp2_with fail
          all_goals
            refine C.out.mono ?_; rintro e w6 ⟨rfl, hb⟩
            have HB6 := Lib.hid (HB2.out.trans (hb.mono HB2.out.size))
            clear hb
            go_wp2
            go_ret
            exact ⟨rfl, HB6.out⟩
        · have q1 : ((j : Int) != (m : Int)) = true := by simp; omega
          have q2 : ((j : Int) == (m : Int)) = false := by simp; omega
          clear hsh
          go_wp2_with fail
          all_goals
            refine C.out.mono ?_; rintro e w6 ⟨rfl, hb⟩
            have HB6 := Lib.hid (HB2.out.trans (hb.mono HB2.out.size))
            clear hb
            go_wp2
            go_ret
            exact ⟨rfl, HB6.out⟩
      · have C := Lib.hid (coded4_err ad 1 2 (by decide) (by decide) wr (HE.out.below HB2.out))
        unfold errV at C
        unfold Shaped at hsh
        have hjm : j = m := by omega
        subst hjm
        have hj0 : ((j : Int) == 0) = false := by simp; omega
        have hcd := HBy.out.2 hby
        simp only [Bool.or_eq_true, decide_eq_true_eq] at hcd
        clear hsh hby HC HBy
        by_cases g1 : 4000 < j
        · have k1 : (4000 : Int) < (j : Int) := by omega
          clear hcd g1
          go_wp2_with fail
          refine C.out.mono ?_; rintro e w6 ⟨rfl, hb⟩
          have HB6 := Lib.hid (HB2.out.trans (hb.mono HB2.out.size))
          clear hb
          go_wp2
          go_ret
          exact ⟨rfl, HB6.out⟩
        · have k1 : (j : Int) ≤ 4000 := by omega
          by_cases g2 : many < 1
          · clear hcd g1
            go_wp2_with fail
            refine C.out.mono ?_; rintro e w6 ⟨rfl, hb⟩
            have HB6 := Lib.hid (HB2.out.trans (hb.mono HB2.out.size))
            clear hb
            go_wp2
            go_ret
            exact ⟨rfl, HB6.out⟩
          · by_cases g3 : 4000 < many
            · clear hcd g1
              go_wp2_with fail
              refine C.out.mono ?_; rintro e w6 ⟨rfl, hb⟩
              have HB6 := Lib.hid (HB2.out.trans (hb.mono HB2.out.size))
              clear hb
              go_wp2
              go_ret
              exact ⟨rfl, HB6.out⟩
            · have hcd2 : bb = true ∨ b2 = true := by
                rcases hcd with (((h | h) | h) | h) | h
                · exact absurd h g1
                · exact absurd h g2
                · exact absurd h g3
                · exact Or.inl h
                · exact Or.inr h
              clear hcd g1
              have g3' : many ≤ 4000 := by omega
              cases bb with
              | true =>
                clear hcd2
                go_wp2_with fail
                refine C.out.mono ?_; rintro e w6 ⟨rfl, hb⟩
                have HB6 := Lib.hid (HB2.out.trans (hb.mono HB2.out.size))
                clear hb
                go_wp2
                go_ret
                exact ⟨rfl, HB6.out⟩
              | false =>
                obtain rfl : b2 = true := by
                  rcases hcd2 with h | h
                  · cases h
                  · exact h
                clear hcd2
                go_wp2_with fail
                refine C.out.mono ?_; rintro e w6 ⟨rfl, hb⟩
                have HB6 := Lib.hid (HB2.out.trans (hb.mono HB2.out.size))
                clear hb
                go_wp2
                go_ret
                exact ⟨rfl, HB6.out⟩
end Go.Proofs.YtbafddlkeocpeaaGreatDoor
