/- TickTexts of package meridianlaw1: the law. -/
import Derived.Test.YtjdjncfpcbeedaaDoorTkRefK
namespace Go.Proofs.YtjdjncfpcbeedaaDoor
open Go.RowKit

theorem errV_err (ad : Nat → Addr) (i : Nat) : isErr (errV ad i) := ⟨_, _, rfl⟩
/-- The program's day and the reference's, of any date. -/
theorem day_any2 (ad : Nat → Addr) (y m d : Int) : ∃ (x : Int) (ev : Value) (e0 : Int),
    (∀ W, Sents W ad → Calls Tryd.prog 56 #[.int .i64 y, .int .i64 m, .int .i64 d] W fun e w' => e = .returned (.tuple #[.int .i64 x, ev]) ∧ Below W.heap.size W w') ∧
    (∀ W, Calls Tryd.prog 59 #[.int .i64 y, .int .i64 m, .int .i64 d] W fun e w' => e = .returned (.tuple #[.int .i64 x, .int .i64 e0]) ∧ Below W.heap.size W w') ∧
    ((ev = .nilIface ∧ e0 = 0 ∧ ∃ k : Nat, m = k ∧ IsDate x y k d) ∨ (isErr ev ∧ 0 < e0 ∧ ¬ dateOk y m d)) := by
  by_cases h : dateOk y m d
  · obtain ⟨h1, h2, h3, h4, h5, h6⟩ := h
    obtain ⟨k, rfl⟩ : ∃ k : Nat, m = k := ⟨m.toNat, by omega⟩
    refine ⟨dayOfF y k d, .nilIface, 0, fun W _ => ?_, fun W => refDayOf_ok y k d h1 h2 (by omega) (by omega) h5 h6 W, Or.inl ⟨rfl, rfl, k, rfl, dayOf_date h1 h2 (by omega) (by omega) h5 h6⟩⟩
    refine (dayOf_ok y k d h1 h2 (by omega) (by omega) h5 h6 W).mono ?_
    rintro e w' ⟨rfl, rfl⟩
    exact ⟨rfl, Below.refl _ _⟩
  · exact ⟨0, errV ad 2, 3, fun W hW => dayOf_bad ad y m d h W (hW.errs _ (by decide)), fun W => refDayOf_bad y m d h W, Or.inr ⟨errV_err _ _, by decide, h⟩⟩
theorem inst_any2 (ad : Nat → Addr) (D A : Nat → Int) (a : Option Addr) (len cap : Nat) (day micro : Int) (g : goodT D A len) : ∃ (x : Int) (iv : Value) (i0 : Int),
    (∀ W, Sents W ad → Tab W a len D A → Calls Tryd.prog 49 #[.slice a len cap, .agg #[.int .i64 day, .int .i64 micro]] W fun e' w' => e' = .returned (.tuple #[.int .i64 x, iv]) ∧ Below W.heap.size W w') ∧
    (∀ W, Tab W a len D A → Calls Tryd.prog 52 #[.slice a len cap, .agg #[.int .i64 day, .int .i64 micro]] W fun e' w' => e' = .returned (.tuple #[.int .i64 x, .int .i64 i0]) ∧ Below W.heap.size W w') ∧
    ((iv = .nilIface ∧ i0 = 0 ∧ instOk D A len day micro) ∨ (isErr iv ∧ 0 < i0 ∧ ¬ instOk D A len day micro)) := by
  by_cases hi : instOk D A len day micro
  · refine ⟨instF D A len day micro, .nilIface, 0, fun W hW hT => instant_ok ad D A a len cap day micro W (hW.errs _ (by decide)) hT g hi, fun W hT => ?_, Or.inl ⟨rfl, rfl, hi⟩⟩
    refine (instOf_good D A a len cap day micro W hT g).mono ?_
    rintro e w' ⟨⟨_, rfl⟩ | ⟨hn, _⟩, hb⟩
    · exact ⟨rfl, hb⟩
    · exact absurd hi hn
  · refine ⟨0, errV ad 2, 3, fun W hW hT => instant_no ad D A a len cap day micro W (hW.errs _ (by decide)) hT g hi, fun W hT => ?_, Or.inr ⟨errV_err _ _, by decide, hi⟩⟩
    refine (instOf_good D A a len cap day micro W hT g).mono ?_
    rintro e w' ⟨⟨hn, _⟩ | ⟨_, rfl⟩, hb⟩
    · exact absurd hn hi
    · exact ⟨rfl, hb⟩
/-- What the law looks at of a reading. -/
def ReadL (ad : Nat → Addr) (W : World) (day micro fc fa : Int) (e : Ending) (w' : World) : Prop :=
  ∃ v, e = .returned (.tuple #[.agg #[.int .i64 day, .int .i64 micro], v]) ∧ Below W.heap.size W w' ∧
    ∀ w2, Sents w2 ad → Below w'.heap.size w' w2 → Calls Tryd.prog 27 #[v, .agg #[.int .i64 fc, .int .i64 fa]] w2 fun e w3 => e = .returned (.bool true) ∧ Below w2.heap.size w2 w3
theorem readL_fault (ad : Nat → Addr) (W w' : World) (f i : Nat) (k c : Int) (hi : i < 10) (hc : (i : Int) + 1 = c) (e : Ending) (he : e = .returned (.tuple #[.agg #[.int .i64 0, .int .i64 0], faultV f])) (h0 : w'.cell? ⟨f, 0, none⟩ = some (.int .i64 k)) (h1 : w'.cell? ⟨f, 1, none⟩ = some (errV ad i)) (hb : Below W.heap.size W w') : ReadL ad W 0 0 c k e w' := by
  refine ⟨faultV f, he, hb, fun w2 hs hb2 => ?_⟩
  have l := cell_lt h0
  exact faulted_fault ad f i k c hi hc w2 hs (by rw [hb2.cell (p := ⟨f, 0, none⟩) l]; exact h0) (by rw [hb2.cell (p := ⟨f, 1, none⟩) l]; exact h1)
theorem timeOk_dec (h mi sc : Nat) : timeOk h mi sc ∨ ¬ timeOk h mi sc := Classical.em _
open Classical in
/-- Both sides read a text alike. -/
theorem read_pair (ad : Nat → Addr) (D A : Nat → Int) (a : Option Addr) (len cap : Nat) (s : ByteArray) (hs : s.size ≤ 1000000) : ∃ day micro fc fa : Int,
    (∀ W, Sents W ad → Tab W a len D A → Calls Tryd.prog 25 #[.slice a len cap, .string s] W (ReadL ad W day micro fc fa)) ∧
    (∀ W, Tab W a len D A → Calls Tryd.prog 26 #[.slice a len cap, .string s] W fun e w' => e = .returned (.tuple #[.agg #[.int .i64 day, .int .i64 micro], .agg #[.int .i64 fc, .int .i64 fa]]) ∧ Below W.heap.size W w') := by
  have hbA : ∀ (W : World) o, Below W.heap.size W (W.alloc o) := fun W o => (Below.refl _ _).alloc (Nat.le_refl _) _
  by_cases g : goodT D A len
  · have HV : ∀ W, Sents W ad → Tab W a len D A → Hid (∀ o, Calls Tryd.prog 55 #[.slice a len cap] (W.alloc o) fun e w' => e = .returned .nilIface ∧ Below (W.alloc o).heap.size (W.alloc o) w') := fun W hW hT => Lib.hid (fun o => valid_good ad D A a len cap (W.alloc o) ((hW.below (hbA W o)).errs _ (by decide)) (hT.belowA o) g)
    have HR : ∀ W, Tab W a len D A → Hid (∀ o1 o2, Calls Tryd.prog 57 #[.slice a len cap] ((W.alloc o1).alloc o2) fun e w' => e = .returned (.int .i64 0) ∧ (W.alloc o1).alloc o2 = w') := fun W hT => Lib.hid (fun o1 o2 => terr_good D A a len cap _ ((hT.belowA o1).belowA o2) g)
    obtain ⟨day, ev, e0, DP, DR, DC⟩ := day_any2 ad (nst s 27 0 : Nat) (nst s 27 1 : Nat) (nst s 27 2 : Nat)
    obtain ⟨micro, hmc⟩ : ∃ micro : Int, ((((nst s 27 3 : Nat) : Int) * 60 + (nst s 27 4 : Nat)) * 60 + (nst s 27 5 : Nat)) * 1000000 + (nst s 27 6 : Nat) = micro := ⟨_, rfl⟩
    obtain ⟨x, iv, i0, IP, IR, IC⟩ := inst_any2 ad D A a len cap day micro g
    cases hb : badF s 27 0 with
    | some p =>
      refine ⟨0, 0, 1, ((min p s.size : Nat) : Int), fun W hW hT => (tkRead_bad ad _ s hs p W hW hb (HV W hW hT)).mono ?_, fun W hT => ?_⟩
      · rintro e w' ⟨f, _, he, h0, h1, hbw⟩
        exact readL_fault ad W w' f 0 _ 1 (by decide) rfl e he h0 h1 hbw
      · have h := refRead_no (.slice a len cap) s hs W day micro e0 false _ _ _ _ rfl rfl rfl rfl hmc (HR W hT) (Lib.hid DR) (fun h => by rw [hb] at h; cases h)
        rw [rdOut_bad hb] at h
        exact h
    | none =>
      have hg := fun j hj => good_of_none (s := s) 27 0 rfl hb j (Nat.zero_le _) hj
      by_cases hl : 27 < s.size
      · refine ⟨0, 0, 1, 27, fun W hW hT => (tkRead_long ad _ s hs W hW hg hl (HV W hW hT)).mono ?_, fun W hT => ?_⟩
        · rintro e w' ⟨f, _, he, h0, h1, hbw⟩
          exact readL_fault ad W w' f 0 _ 1 (by decide) rfl e he h0 h1 hbw
        · have h := refRead_no (.slice a len cap) s hs W day micro e0 false _ _ _ _ rfl rfl rfl rfl hmc (HR W hT) (Lib.hid DR) (fun _ h => absurd hl h)
          rw [rdOut_long hb hl] at h
          exact h
      · have h27 : s.size = 27 := by have := (hg 26 (by decide)).1; omega
        have fit := fun (ok : Bool) (hO : fitO ev iv (nst s 27 3) (nst s 27 4) (nst s 27 5) ok) W (hW : Sents W ad) (hT : Tab W a len D A) =>
          tkRead_fit ad (.slice a len cap) s h27 W hW hg day x micro ev iv ok _ _ _ _ rfl rfl rfl rfl hmc (Lib.hid (fun W2 hb2 => DP W2 (hW.below hb2))) (Lib.hid (fun W2 hb2 => IP W2 (hW.below hb2) (hT.below hb2))) hO (HV W hW hT)
        have no : ∀ (W : World) (e : Ending) (w' : World), readR ad W day micro false e w' → ReadL ad W 0 0 3 0 e w' := by
          rintro W e w' (⟨h, _⟩ | ⟨_, f, _, he, h0, h1, hbw⟩)
          · cases h
          · exact readL_fault ad W w' f 2 0 3 (by decide) rfl e he h0 h1 hbw
        rcases DC with ⟨rfl, rfl, hdate⟩ | ⟨hev, he0, _⟩
        · rcases timeOk_dec (nst s 27 3) (nst s 27 4) (nst s 27 5) with ht | ht
          · rcases IC with ⟨rfl, rfl, _⟩ | ⟨hiv, hi0, _⟩
            · refine ⟨day, micro, 0, -1, fun W hW hT => (fit true (Or.inr ⟨rfl, Or.inr ⟨ht, Or.inr ⟨rfl, rfl⟩⟩⟩) W hW hT).mono ?_, fun W hT => ?_⟩
              · rintro e w' (⟨_, he, hbw⟩ | ⟨h, _⟩)
                · exact ⟨.nilIface, he, hbw, fun w2 _ _ => faulted_nil w2 (-1)⟩
                · cases h
              · have h := refRead_ok (.slice a len cap) s hs W day x micro 0 0 true _ _ _ _ rfl rfl rfl rfl hmc (HR W hT) (Lib.hid DR) (Lib.hid (fun W2 hb2 => IR W2 (hT.below hb2))) hg h27 ⟨rfl, ht, Or.inr ⟨rfl, rfl⟩⟩
                rw [rdOut_ok hb hl] at h
                exact h
            · refine ⟨0, 0, 3, 0, fun W hW hT => (fit false (Or.inr ⟨rfl, Or.inr ⟨ht, Or.inl ⟨hiv, rfl⟩⟩⟩) W hW hT).mono (no W), fun W hT => ?_⟩
              have h := refRead_ok (.slice a len cap) s hs W day x micro 0 i0 false _ _ _ _ rfl rfl rfl rfl hmc (HR W hT) (Lib.hid DR) (Lib.hid (fun W2 hb2 => IR W2 (hT.below hb2))) hg h27 ⟨rfl, ht, Or.inl ⟨hi0, rfl⟩⟩
              rw [rdOut_no hb hl] at h
              exact h
          · refine ⟨0, 0, 3, 0, fun W hW hT => (fit false (Or.inr ⟨rfl, Or.inl ⟨ht, rfl⟩⟩) W hW hT).mono (no W), fun W hT => ?_⟩
            have h := refRead_no (.slice a len cap) s hs W day micro 0 false _ _ _ _ rfl rfl rfl rfl hmc (HR W hT) (Lib.hid DR) (fun _ _ => ⟨rfl, Or.inr ⟨rfl, ht⟩⟩)
            rw [rdOut_no hb hl] at h
            exact h
        · refine ⟨0, 0, 3, 0, fun W hW hT => (fit false (Or.inl ⟨hev, rfl⟩) W hW hT).mono (no W), fun W hT => ?_⟩
          have h := refRead_no (.slice a len cap) s hs W day micro e0 false _ _ _ _ rfl rfl rfl rfl hmc (HR W hT) (Lib.hid DR) (fun _ _ => ⟨rfl, Or.inl he0⟩)
          rw [rdOut_no hb hl] at h
          exact h
  · refine ⟨0, 0, badE len, -1, fun W hW hT => ?_, fun W hT => ?_⟩
    · refine (tkRead_err _ s _ _ W (Lib.hid (fun o => valid_bad ad D A a len cap (W.alloc o) ((hW.below (hbA W o)).errs _ (by decide)) (hT.belowA o) g))).mono ?_
      rintro e w' ⟨he, hbw⟩
      refine ⟨_, he, hbw, fun w2 hs2 _ => ?_⟩
      unfold badA badE
      by_cases hl : 60 < len
      · rw [if_pos hl, if_pos hl]; exact faulted_bare ad 1 2 (by decide) (by decide) w2 hs2
      · rw [if_neg hl, if_neg hl]; exact faulted_bare ad 3 4 (by decide) (by decide) w2 hs2
    · exact refRead_err _ s (badE len) (badE_pos len) W (Lib.hid (fun o1 o2 => terr_bad D A a len cap _ ((hT.belowA o1).belowA o2) g))
/-- A stamp's text, read back. -/
theorem read_back (ad : Nat → Addr) (D A : Nat → Int) (a : Option Addr) (len cap : Nat) (day micro y d M R : Int) (k : Nat) (g : goodT D A len) (hi : instOk D A len day micro) (hd : IsDate day y (k + 1) d) (hM : min (micro / 60000000) 1439 = M) (hR : micro - M * 60 * 1000000 = R) (W : World) (hW : Sents W ad) (hT : Tab W a len D A) :
    Calls Tryd.prog 25 #[.slice a len cap, .string (bs (stL y.toNat (k + 1) d.toNat M.toNat R.toNat))] W fun e w' => e = .returned (.tuple #[.agg #[.int .i64 day, .int .i64 micro], .nilIface]) ∧ Below W.heap.size W w' := by
  have hbA : ∀ (W : World) o, Below W.heap.size W (W.alloc o) := fun W o => (Below.refl _ _).alloc (Nat.le_refl _) _
  obtain ⟨i1, i2, i3, i4, i5⟩ := id hi
  have hlen : lengthF D A len day ≤ 86401000000 := by
    have := (ofTo_step day g.2).2
    unfold lengthF; omega
  obtain ⟨d1, d2, d3, d4, d5, d6, d7⟩ := id hd
  have hd31 : d ≤ 31 := by
    have : longF y ((k : Int) + 1) ≤ 31 := by unfold longF; repeat' split
                                              all_goals omega
    have e : ((k + 1 : Nat) : Int) = (k : Int) + 1 := by omega
    rw [e] at d6
    omega
  obtain ⟨v0, v1, v2, v3, v4, v5, v6⟩ := st_vals y.toNat (k + 1) d.toNat M.toNat R.toNat (by omega) (by omega) (by omega) (by omega) (by omega)
  have hg := st_good y.toNat (k + 1) d.toNat M.toNat R.toNat
  have hz := st_size y.toNat (k + 1) d.toNat M.toNat R.toNat
  generalize bs (stL y.toNat (k + 1) d.toNat M.toNat R.toNat) = s at *
  have ey : ((y.toNat : Nat) : Int) = y := by omega
  have ed : ((d.toNat : Nat) : Int) = d := by omega
  have DP : ∀ W, Calls Tryd.prog 56 #[.int .i64 (nst s 27 0 : Nat), .int .i64 (nst s 27 1 : Nat), .int .i64 (nst s 27 2 : Nat)] W fun e w' => e = .returned (.tuple #[.int .i64 day, .nilIface]) ∧ Below W.heap.size W w' := fun W => by
    rw [v0, v1, v2, ey, ed]
    have h := dayOf_ok y (k + 1) d d1 d2 (by omega) (by omega) d5 d6 W
    have e : dayOfF y (k + 1) d = day := by
      have := dayOf_date d1 d2 (by omega) (by omega) d5 d6
      have h7 := this.2.2.2.2.2.2
      omega
    rw [e] at h
    exact h.mono fun e w' ⟨he, hb⟩ => ⟨he, by rw [← hb]; exact Below.refl _ _⟩
  refine (tkRead_fit ad (.slice a len cap) s hz W hW hg day (instF D A len day micro) micro .nilIface .nilIface true _ _ _ _ v3 v4 v5 v6 (by omega) (Lib.hid (fun W2 _ => DP W2)) (Lib.hid (fun W2 hb2 => instant_ok ad D A a len cap day micro W2 ((hW.below hb2).errs _ (by decide)) (hT.below hb2) g hi)) (Or.inr ⟨rfl, Or.inr ⟨⟨by omega, by omega, by omega⟩, Or.inr ⟨rfl, rfl⟩⟩⟩) (Lib.hid (fun o => valid_good ad D A a len cap (W.alloc o) ((hW.below (hbA W o)).errs _ (by decide)) (hT.belowA o) g))).mono ?_
  rintro e w' (⟨_, he, hb⟩ | ⟨h, _⟩)
  · exact ⟨he, hb⟩
  · cases h
set_option maxRecDepth 20000 in
set_option maxHeartbeats 4000000 in
theorem tickTexts_any (ad : Nat → Addr) {w : World} (D A : Nat → Int) (a : Option Addr) (len cap : Nat) (hT : Tab w a len D A) (sd sm : Int) (_ : In64 sd) (_ : In64 sm) (s : ByteArray) (hs : s.size ≤ maxLen) (hE : Sents w ad) (hP : Pow10 w) :
    Calls Tryd.prog 5 #[.slice a len cap, .agg #[.int .i64 sd, .int .i64 sm], .string s] w fun e w' => e = .returned (.bool true) ∧ Below w.heap.size w w' := by
  have L0 := Lib.hid (fun W (h : Errs W ad [1, 2, 3]) => live_any ad W h)
  have HE := Lib.hid hE
  have HT := Lib.hid hT
  have HP := Lib.hid hP
  have hbA : ∀ (W : World) o, Below W.heap.size W (W.alloc o) := fun W o => (Below.refl _ _).alloc (Nat.le_refl _) _
  have HA := Lib.hid hbA
  clear hE hT hP hbA
  by_cases cl : 100 < len
  · go_enter Tryd.func5, Tryd.ntmps5
    go_wp2_with fail
    refine (L0.out _ ((HE.out.below (HA.out _ _)).errs _ (by decide))).mono ?_; rintro e w1 ⟨rfl, hb1⟩
    have B1 := Lib.hid (below_step (HA.out _ _) hb1)
    clear hb1
    go_wp2
    go_ret
    exact ⟨rfl, B1.out⟩
  by_cases cs : 3000 < s.size
  · have hs' : (s.size : Int) ≤ maxLen := by exact_mod_cast hs
    go_enter Tryd.func5, Tryd.ntmps5
    go_wp2_with fail
    refine (L0.out _ ((HE.out.below (HA.out _ _)).errs _ (by decide))).mono ?_; rintro e w1 ⟨rfl, hb1⟩
    have B1 := Lib.hid (below_step (HA.out _ _) hb1)
    clear hb1
    go_wp2
    go_ret
    exact ⟨rfl, B1.out⟩
  have hN : s.size ≤ 3000 := by omega
  obtain ⟨t, ev, e0, TP, TR, TC, TO⟩ := text_pair ad D A a len cap sd sm
  obtain ⟨day, micro, fc, fa, RP, RR⟩ := read_pair ad D A a len cap s (by omega)
  have TP := Lib.hid TP
  have TR := Lib.hid TR
  have TC := Lib.hid TC
  have TO := Lib.hid TO
  have RP := Lib.hid RP
  have RR := Lib.hid RR
  unfold ReadL at RP
  clear hs
  go_enter Tryd.func5, Tryd.ntmps5
  go_wp2_with fail
  refine (L0.out _ ((HE.out.below (HA.out _ _)).errs _ (by decide))).mono ?_; rintro e w1 ⟨rfl, hb1⟩
  obtain ⟨c0, c1, hl1⟩ := freshW hb1
  have B1 := Lib.hid (below_step (HA.out _ _) hb1)
  have HS := Lib.hid (fun W (hb : Below w1.heap.size w1 W) => (show W.cell? ⟨w.heap.size, 0, none⟩ = some (.int .i64 sd) ∧ W.cell? ⟨w.heap.size, 1, none⟩ = some (.int .i64 sm) from ⟨by rw [hb.cell (p := ⟨w.heap.size, 0, none⟩) hl1]; exact c0, by rw [hb.cell (p := ⟨w.heap.size, 1, none⟩) hl1]; exact c1⟩))
  clear hb1 L0
  go_wp2_with fail
  refine (TP.out _ (HE.out.below B1.out) (HP.out.below B1.out) (HT.out.below B1.out)).mono ?_; rintro e w2 ⟨rfl, hb2⟩
  have C2 := Lib.hid hb2
  have B2 := Lib.hid (below_step B1.out hb2)
  obtain ⟨c0, c1⟩ := HS.out _ hb2
  clear hb2 TP B1
  go_wp2_with fail
  refine (TR.out _ (HT.out.below B2.out)).mono ?_; rintro e w3 ⟨rfl, hb3⟩
  have C3 := Lib.hid (below_step C2.out hb3)
  have B3 := Lib.hid (below_step B2.out hb3)
  clear hb3 TR B2 C2 c0 c1
  go_wp2_with fail
  refine (TC.out _ (HE.out.below B3.out)).mono ?_; rintro e w4 ⟨rfl, hb4⟩
  have C4 := Lib.hid (below_step C3.out hb4)
  have B4 := Lib.hid (below_step B3.out hb4)
  clear hb4 TC B3 C3
  go_wp2_with fail
  refine (RP.out _ (HE.out.below B4.out) (HT.out.below B4.out)).mono ?_; rintro e w5 ⟨v, rfl, hb5, hf5⟩
  have C5 := Lib.hid (below_step C4.out hb5)
  have B5 := Lib.hid (below_step B4.out hb5)
  have F5 := Lib.hid hf5
  clear hb5 hf5 RP B4 C4
  go_wp2_with fail
  refine (RR.out _ (HT.out.below (below_step B5.out (HA.out _ _)))).mono ?_; rintro e w6 ⟨rfl, hb6⟩
  obtain ⟨p0, p1, hl6⟩ := freshW hb6
  have D6 := Lib.hid (below_step (HA.out w5 _) hb6)
  have C6 := Lib.hid (below_step C5.out D6.out)
  have B6 := Lib.hid (below_step B5.out D6.out)
  clear hb6 RR B5 C5
  have A6 : Hid (∀ o1 o2, Below w6.heap.size w6 ((w6.alloc o1).alloc o2)) := Lib.hid (fun o1 o2 => below_step (HA.out w6 o1) (HA.out (w6.alloc o1) o2))
  go_wp2_with fail
  refine (F5.out _ (HE.out.below (below_step B6.out (A6.out _ _))) (below_step D6.out (A6.out _ _))).mono ?_; rintro e w7 ⟨rfl, hb7⟩
  have D7 : Below w6.heap.size w6 w7 := below_step (A6.out _ _) hb7
  have r0 : w7.cell? ⟨w5.heap.size, 0, none⟩ = some (.int .i64 day) := by rw [D7.cell (p := ⟨w5.heap.size, 0, none⟩) hl6]; exact p0
  have r1 : w7.cell? ⟨w5.heap.size, 1, none⟩ = some (.int .i64 micro) := by rw [D7.cell (p := ⟨w5.heap.size, 1, none⟩) hl6]; exact p1
  have r2 : w7.cell? ⟨w6.heap.size, 0, none⟩ = some (.int .i64 day) := by rw [hb7.cell (p := ⟨w6.heap.size, 0, none⟩) (by simp; omega)]; simp
  have r3 : w7.cell? ⟨w6.heap.size, 1, none⟩ = some (.int .i64 micro) := by rw [hb7.cell (p := ⟨w6.heap.size, 1, none⟩) (by simp; omega)]; simp
  have C7 := Lib.hid (below_step C6.out D7)
  have B7 := Lib.hid (below_step B6.out D7)
  clear hb7 D7 F5 D6 C6 B6 A6 p0 p1 hl6
  rcases TO.out with he | ⟨rfl, g, hi, y, d, M, R, k, hd, hM, hR, rfl⟩
  · clear TO HS C7 HE HT HP HA
    go_wp2
    go_ret
    exact ⟨rfl, B7.out⟩
  · have HB := Lib.hid (fun W hW hT => read_back ad D A a len cap sd sm y d M R k g hi hd hM hR W hW hT)
    have hz := st_size y.toNat (k + 1) d.toNat M.toNat R.toNat
    clear g hi hd hM hR TO
    generalize bs (stL y.toNat (k + 1) d.toNat M.toNat R.toNat) = u at *
    go_wp2_with fail
    refine (HB.out _ (HE.out.below B7.out) (HT.out.below B7.out)).mono ?_; rintro e w8 ⟨rfl, hb8⟩
    obtain ⟨c0, c1⟩ := HS.out _ (below_step C7.out hb8)
    have hl8 : w.heap.size < w8.heap.size := cell_lt c0
    have B8 := Lib.hid (below_step B7.out hb8)
    clear hb8 HB C7 B7 HS r0 r1 r2 r3
    go_wp2
    go_ret
    exact ⟨rfl, by first | exact below_step B8.out (HA.out _ _) | go_grown⟩
end Go.Proofs.YtjdjncfpcbeedaaDoor
