/- slices.IndexFunc and DeleteFunc at spots, with Find's own test: those of few pixels go. -/
import Derived.Test.YthbekddpnkammaaGreatDoorFndP
namespace Go.Proofs.YthbekddpnkammaaGreatDoor
open Go.RowKit

def encSp (s : Sp) : List Value := [.int .i64 s.L, .int .i64 s.T, .int .i64 s.R, .int .i64 s.Lo, .int .i64 s.P, .int .i64 s.Li, .int .i64 s.X, .int .i64 s.Y, .int .i64 s.SL]
def aggSp (s : Sp) : Value := .agg #[.int .i64 s.L, .int .i64 s.T, .int .i64 s.R, .int .i64 s.Lo, .int .i64 s.P, .int .i64 s.Li, .int .i64 s.X, .int .i64 s.Y, .int .i64 s.SL]
theorem few_any (s : Sp) (least : Int) (q : Nat) (w : World) (hq : w.cell? ⟨q, 0, none⟩ = some (.int .i64 least)) :
    Calls Tryz.prog 55 #[aggSp s, .pointer (some ⟨q, 0, none⟩)] w fun e w' => e = .returned (.bool (decide (s.P < least))) ∧ Below w.heap.size w w' := by
  have hl := cell_lt hq
  have hq' : (w.alloc (.cells #[.int .i64 s.L, .int .i64 s.T, .int .i64 s.R, .int .i64 s.Lo, .int .i64 s.P, .int .i64 s.Li, .int .i64 s.X, .int .i64 s.Y, .int .i64 s.SL] 36)).cell? ⟨q, 0, none⟩ = some (.int .i64 least) := by
    rw [((Below.refl _ _).alloc (Nat.le_refl _) _).cell (p := ⟨q, 0, none⟩) hl]; exact hq
  unfold aggSp
  clear hq
  obtain ⟨sL, sT, sR, sO, sP, sI, sX, sY, sS⟩ := s
  go_enter Tryz.func55, Tryz.ntmps55
  go_wp2
  go_ret
  exact ⟨rfl, (Below.refl _ _).alloc (Nat.le_refl _) _⟩
theorem cell9' {w : World} {g m : Nat} {S : Nat → Sp} (h : OutZ w g (m * 9) (cellZ S)) {p : Nat} (hp : p < m) :
    w.cell? ⟨g, p * 9, none⟩ = some (.int .i64 (S p).L) ∧ w.cell? ⟨g, p * 9 + 1, none⟩ = some (.int .i64 (S p).T) ∧ w.cell? ⟨g, p * 9 + 2, none⟩ = some (.int .i64 (S p).R) ∧ w.cell? ⟨g, p * 9 + 3, none⟩ = some (.int .i64 (S p).Lo) ∧ w.cell? ⟨g, p * 9 + 4, none⟩ = some (.int .i64 (S p).P) ∧ w.cell? ⟨g, p * 9 + 5, none⟩ = some (.int .i64 (S p).Li) ∧ w.cell? ⟨g, p * 9 + 6, none⟩ = some (.int .i64 (S p).X) ∧ w.cell? ⟨g, p * 9 + 7, none⟩ = some (.int .i64 (S p).Y) ∧ w.cell? ⟨g, p * 9 + 8, none⟩ = some (.int .i64 (S p).SL) :=
  ⟨(h.cell9 hp (c := 0) (by decide)).1, (h.cell9 hp (c := 1) (by decide)).1, (h.cell9 hp (c := 2) (by decide)).1, (h.cell9 hp (c := 3) (by decide)).1, (h.cell9 hp (c := 4) (by decide)).1, (h.cell9 hp (c := 5) (by decide)).1, (h.cell9 hp (c := 6) (by decide)).1, (h.cell9 hp (c := 7) (by decide)).1, (h.cell9 hp (c := 8) (by decide)).1⟩
theorem frz9 {w : World} {g m : Nat} {S : Nat → Sp} (h : OutZ w g (m * 9) (cellZ S)) {p : Nat} (hp : p < m) :
    w.frozen? ⟨g, p * 9, none⟩ = false ∧ w.frozen? ⟨g, p * 9 + 1, none⟩ = false ∧ w.frozen? ⟨g, p * 9 + 2, none⟩ = false ∧ w.frozen? ⟨g, p * 9 + 3, none⟩ = false ∧ w.frozen? ⟨g, p * 9 + 4, none⟩ = false ∧ w.frozen? ⟨g, p * 9 + 5, none⟩ = false ∧ w.frozen? ⟨g, p * 9 + 6, none⟩ = false ∧ w.frozen? ⟨g, p * 9 + 7, none⟩ = false ∧ w.frozen? ⟨g, p * 9 + 8, none⟩ = false :=
  ⟨(h.cell9 hp (c := 0) (by decide)).2, (h.cell9 hp (c := 1) (by decide)).2, (h.cell9 hp (c := 2) (by decide)).2, (h.cell9 hp (c := 3) (by decide)).2, (h.cell9 hp (c := 4) (by decide)).2, (h.cell9 hp (c := 5) (by decide)).2, (h.cell9 hp (c := 6) (by decide)).2, (h.cell9 hp (c := 7) (by decide)).2, (h.cell9 hp (c := 8) (by decide)).2⟩
set_option maxRecDepth 10000 in
set_option maxHeartbeats 2000000 in
theorem indexSp_any (S : Nat → Sp) (least : Int) (g m cap q : Nat) (hm : m ≤ 100000) (w : World) (hq : w.cell? ⟨q, 0, none⟩ = some (.int .i64 least)) (h : OutZ w g (m * 9) (cellZ S)) :
    Calls Tryz.prog 81 #[.slice (some ⟨g, 0, none⟩) m cap, .func (.func 55) #[] #[.pointer (some ⟨q, 0, none⟩)]] w fun e w' =>
      (∃ r : Int, e = .returned (.int .i64 r) ∧ ((r = -1 ∧ ∀ j, j < m → least ≤ (S j).P) ∨ ∃ i : Nat, r = i ∧ i < m ∧ (S i).P < least ∧ ∀ j, j < i → least ≤ (S j).P)) ∧ Below w.heap.size w w' := by
  have HO := Lib.hid h
  have HQ := Lib.hid hq
  have hql := cell_lt hq
  clear h hq
  go_enter Tryz.func81, Tryz.ntmps81
  go_wp2
  go_loopw [8] (fun i wr => ∃ k : Nat, k ≤ m ∧ i = .int .i64 k ∧ Hid (Below w.heap.size w wr) ∧ Hid (∀ j, j < k → least ≤ (S j).P)) (fun i _ => m - (intOf i).toNat)
  case atStart => exact ⟨0, Nat.zero_le _, rfl, Lib.hid (Below.refl _ _), Lib.hid (fun j hj => by omega)⟩
  case round =>
    obtain ⟨k, hk, rfl, hB, hN⟩ := hrel
    by_cases hlt : k < m
    · obtain ⟨c0, c1, c2, c3, c4, c5, c6, c7, c8⟩ := cell9' (HO.out.below hB.out) hlt
      have HF := Lib.hid (fun o => few_any (S k) least q ((wr.alloc o)) (by rw [((Below.refl _ _).alloc (Nat.le_refl _) _).cell (p := ⟨q, 0, none⟩) (Nat.lt_of_lt_of_le hql hB.out.size), hB.out.cell (p := ⟨q, 0, none⟩) hql]; exact HQ.out))
      have HF0 := Lib.hid (few_any (S k) least q wr (by rw [hB.out.cell (p := ⟨q, 0, none⟩) hql]; exact HQ.out))
      unfold aggSp at HF0
      have HPk : Hid ((S k).P < least ↔ (S k).P < least) := Lib.hid Iff.rfl
      obtain ⟨s, hs⟩ : ∃ s, S k = s := ⟨_, rfl⟩
      rw [hs] at HF0 HF c0 c1 c2 c3 c4 c5 c6 c7 c8
      have HS := Lib.hid hs
      clear hs
      obtain ⟨sL, sT, sR, sO, sP, sI, sX, sY, sS⟩ := s
      go_wp2_with fail
      refine HF0.out.mono ?_; rintro e w1 ⟨rfl, hb1⟩
      have HB1 := Lib.hid (below_step hB.out hb1)
      clear hb1 HF0 HF hB
      by_cases hP : sP < least
      · have d : decide (sP < least) = true := by simpa using hP
        go_wp2
        go_ret
        exact ⟨⟨(k : Int), rfl, Or.inr ⟨k, rfl, hlt, by rw [HS.out]; exact hP, hN.out⟩⟩, HB1.out⟩
      · have d : decide (sP < least) = false := by simpa using hP
        go_wp2
        go_roundw
        case rel => exact ⟨k + 1, by omega, by go_num, HB1, Lib.hid (fun j hj => by
          by_cases e : j = k
          · rw [e, HS.out]; show least ≤ sP; omega
          · have := hN.out j (by omega); omega)⟩
        case measure => simp [intOf]; omega
    · have e : k = m := by omega
      subst e
      go_wp2
      go_ret
      exact ⟨⟨-1, rfl, Or.inl ⟨rfl, hN.out⟩⟩, hB.out⟩

/-! ### DeleteFunc -/
/-- Those that stay, of the first j. -/
def stayL (S : Nat → Sp) (least : Int) : Nat → List Sp
  | 0 => []
  | j + 1 => stayL S least j ++ (if (S j).P < least then [] else [S j])
theorem stayL_keep {S : Nat → Sp} {least : Int} {j : Nat} (h : ¬ (S j).P < least) : stayL S least (j + 1) = stayL S least j ++ [S j] := by rw [stayL, if_neg h]
theorem stayL_drop {S : Nat → Sp} {least : Int} {j : Nat} (h : (S j).P < least) : stayL S least (j + 1) = stayL S least j := by rw [stayL, if_pos h, List.append_nil]
theorem stayL_len (S : Nat → Sp) (least : Int) (j : Nat) : (stayL S least j).length ≤ j := by
  induction j with
  | zero => exact Nat.le_refl _
  | succ j ih =>
    rw [stayL, List.length_append]
    split
    · simp; omega
    · simp; omega
theorem stayL_all {S : Nat → Sp} {least : Int} {j : Nat} (h : ∀ i, i < j → least ≤ (S i).P) : stayL S least j = (List.range j).map S := by
  induction j with
  | zero => rfl
  | succ j ih => rw [stayL_keep (Int.not_lt.2 (h j (by omega))), ih (fun i hi => h i (by omega)), List.range_succ, List.map_append]; rfl
/-- The row while it is thinned: i elements stay, the rest are as they were. -/
def thin (S : Nat → Sp) (L : List Sp) (q : Nat) : Sp := if q < L.length then L.getD q Sp.nil else S q
theorem thin_all {S : Nat → Sp} {least : Int} {j : Nat} (h : ∀ i, i < j → least ≤ (S i).P) : thin S (stayL S least j) = S := by
  funext q
  unfold thin
  rw [stayL_all h]
  by_cases c : q < j
  · rw [if_pos (by simpa using c), List.getD_eq_getElem?_getD, List.getElem?_map, List.getElem?_range c]
    rfl
  · rw [if_neg (by simpa using c)]
theorem thin_put (S : Nat → Sp) (L : List Sp) (s : Sp) : thin S (L ++ [s]) = setS (thin S L) L.length s := by
  funext q
  unfold thin setS
  by_cases e : q = L.length
  · rw [if_pos e, if_pos (by rw [List.length_append, e]; exact Nat.lt_succ_self _), e, List.getD_eq_getElem?_getD, List.getElem?_append_right (Nat.le_refl _), Nat.sub_self]
    rfl
  · rw [if_neg e]
    show (if q < (L ++ [s]).length then (L ++ [s]).getD q Sp.nil else S q) = (if q < L.length then L.getD q Sp.nil else S q)
    by_cases c : q < L.length
    · rw [if_pos c, if_pos (by rw [List.length_append]; omega), List.getD_eq_getElem?_getD, List.getD_eq_getElem?_getD, List.getElem?_append_left c]
    · have c2 : ¬ q < (L ++ [s]).length := by
        rw [List.length_append]
        show ¬ q < L.length + 1
        omega
      rw [if_neg c, if_neg c2]
theorem run_clear9 (w : World) (b o n c : Nat) (hn : 0 < n) (hc : ∀ j, j < n * 9 → (w.cell? ⟨b, o + j, none⟩).isSome = true) (hf : ∀ j, j < n * 9 → w.frozen? ⟨b, o + j, none⟩ = false) :
    ∃ vs : List Value, vs.length = n * 9 ∧ ∀ ty, (Builtin.clear_ #[57] ty #[.slice (some ⟨b, o, none⟩) n c]).run Tryz.prog w = .ok (.tuple #[]) (w.setCells b o vs) := by
  obtain ⟨z, hz⟩ : ∃ z : Value, z = .agg #[.int .i64 0, .int .i64 0, .int .i64 0, .int .i64 0, .int .i64 0, .int .i64 0, .int .i64 0, .int .i64 0, .int .i64 0] := ⟨_, rfl⟩
  have hv : ∀ w, (zeroValue 36).run Tryz.prog w = .ok z w := by rw [hz]; exact Tryz.zeroValue36
  have hlen : (Builtin.zeroCells z.cells n).toList.length = n * 9 := by
    rw [hz]
    simp [Builtin.zeroCells, Value.cells]
  have h1 : ∀ v ∈ (Builtin.zeroCells z.cells n).toList, v.oneCell' = true := by
    intro v hv
    simp only [Builtin.zeroCells, Array.toList_map, List.mem_map] at hv
    obtain ⟨i, _, rfl⟩ := hv
    have h9 : i % z.cells.size < 9 := by rw [hz]; exact Nat.mod_lt _ (by decide)
    have e9 : z.cells = #[.int .i64 0, .int .i64 0, .int .i64 0, .int .i64 0, .int .i64 0, .int .i64 0, .int .i64 0, .int .i64 0, .int .i64 0] := by rw [hz]; rfl
    rw [e9] at h9 ⊢
    generalize i % _ = t at *
    rcases t with _ | _ | _ | _ | _ | _ | _ | _ | _ | t
    case succ.succ.succ.succ.succ.succ.succ.succ.succ => omega
    all_goals rfl
  have hst := run_storeCells_cells (P := Tryz.prog) b o (Builtin.zeroCells z.cells n).toList 0 w (by rw [hlen]; simpa using hc) (by rw [hlen]; simpa using hf) h1
  simp only [Nat.add_zero] at hst
  refine ⟨(Builtin.zeroCells z.cells n).toList, hlen, fun ty => ?_⟩
  obtain ⟨m, rfl⟩ : ∃ m, n = m + 1 := ⟨n - 1, by omega⟩
  have hu := run_underlying (P := Tryz.prog) Tryz.underlying57
  simp [Builtin.clear_, hu, hv, hst]
/-- A whole spot stored. -/
theorem OutZ.spot {w : World} {g m p : Nat} {S : Nat → Sp} (hp : p < m) (h : OutZ w g (m * 9) (cellZ S)) (s : Sp) :
    OutZ (((((((((w.setCell ⟨g, p * 9, none⟩ (.int .i64 s.L)).setCell ⟨g, p * 9 + 1, none⟩ (.int .i64 s.T)).setCell ⟨g, p * 9 + 2, none⟩ (.int .i64 s.R)).setCell ⟨g, p * 9 + 3, none⟩ (.int .i64 s.Lo)).setCell ⟨g, p * 9 + 4, none⟩ (.int .i64 s.P)).setCell ⟨g, p * 9 + 5, none⟩ (.int .i64 s.Li)).setCell ⟨g, p * 9 + 6, none⟩ (.int .i64 s.X)).setCell ⟨g, p * 9 + 7, none⟩ (.int .i64 s.Y)).setCell ⟨g, p * 9 + 8, none⟩ (.int .i64 s.SL)) g (m * 9) (cellZ (setS S p s)) := by
  have h0 : OutZ w g (m * 9) (cellZ (setS S p (S p))) := by rw [setS_self]; exact h
  have k0 := OutZ.field0 rfl hp (v := s.L) h0
  have k1 := OutZ.fieldS rfl hp 1 (by decide) (v := s.T) k0
  have k2 := OutZ.fieldS rfl hp 2 (by decide) (v := s.R) k1
  have k3 := OutZ.fieldS rfl hp 3 (by decide) (v := s.Lo) k2
  have k4 := OutZ.fieldS rfl hp 4 (by decide) (v := s.P) k3
  have k5 := OutZ.fieldS rfl hp 5 (by decide) (v := s.Li) k4
  have k6 := OutZ.fieldS rfl hp 6 (by decide) (v := s.X) k5
  have k7 := OutZ.fieldS rfl hp 7 (by decide) (v := s.Y) k6
  have k8 := OutZ.fieldS rfl hp 8 (by decide) (v := s.SL) k7
  have e : ((((((((((S p).put 0 s.L).put 1 s.T).put 2 s.R).put 3 s.Lo).put 4 s.P).put 5 s.Li).put 6 s.X).put 7 s.Y).put 8 s.SL) = s := by cases s; rfl
  rw [e] at k8
  exact k8
theorem below_spot {w w0 : World} {B g p : Nat} {v0 v1 v2 v3 v4 v5 v6 v7 v8 : Value} (h : Below B w0 w) (hg : B ≤ g) :
    Below B w0 (((((((((w.setCell ⟨g, p * 9, none⟩ v0).setCell ⟨g, p * 9 + 1, none⟩ v1).setCell ⟨g, p * 9 + 2, none⟩ v2).setCell ⟨g, p * 9 + 3, none⟩ v3).setCell ⟨g, p * 9 + 4, none⟩ v4).setCell ⟨g, p * 9 + 5, none⟩ v5).setCell ⟨g, p * 9 + 6, none⟩ v6).setCell ⟨g, p * 9 + 7, none⟩ v7).setCell ⟨g, p * 9 + 8, none⟩ v8) :=
  ((((((((h.setCell (p := ⟨g, p * 9, none⟩) hg v0).setCell (p := ⟨g, p * 9 + 1, none⟩) hg v1).setCell (p := ⟨g, p * 9 + 2, none⟩) hg v2).setCell (p := ⟨g, p * 9 + 3, none⟩) hg v3).setCell (p := ⟨g, p * 9 + 4, none⟩) hg v4).setCell (p := ⟨g, p * 9 + 5, none⟩) hg v5).setCell (p := ⟨g, p * 9 + 6, none⟩) hg v6).setCell (p := ⟨g, p * 9 + 7, none⟩) hg v7).setCell (p := ⟨g, p * 9 + 8, none⟩) hg v8
theorem below_setCells {w w0 : World} {B g : Nat} (h : Below B w0 w) (hg : B ≤ g) : ∀ (vs : List Value) (o : Nat), Below B w0 (w.setCells g o vs)
  | [], _ => h
  | v :: r, o => by
    rw [World.setCells]
    exact below_setCells (h.setCell (p := ⟨g, o, none⟩) hg v) hg r (o + 1)
theorem size_setCells9 {g : Nat} : ∀ (vs : List Value) (o : Nat) (w : World), (w.setCells g o vs).heap.size = w.heap.size
  | [], _, _ => rfl
  | v :: r, o, w => by
    rw [World.setCells, size_setCells9 r (o + 1)]
    simp
theorem thin_at {S : Nat → Sp} {least : Int} (j : Nat) : thin S (stayL S least j) j = S j := if_neg (Nat.not_lt.2 (stayL_len S least j))
set_option maxRecDepth 10000 in
set_option maxHeartbeats 4000000 in
theorem deleteSp_any (S : Nat → Sp) (least : Int) (g m cap q : Nat) (hm : m ≤ 100000) (w : World) (hq : w.cell? ⟨q, 0, none⟩ = some (.int .i64 least)) (hqg : q < g) (hgw : g < w.heap.size) (hmc : m ≤ cap) (h : OutZ w g (m * 9) (cellZ S)) :
    Calls Tryz.prog 54 #[.slice (some ⟨g, 0, none⟩) m cap, .func (.func 55) #[] #[.pointer (some ⟨q, 0, none⟩)]] w fun e w' =>
      ∃ c', e = .returned (.slice (some ⟨g, 0, none⟩) (stayL S least m).length c') ∧ OutZ w' g ((stayL S least m).length * 9) (cellZ fun j => (stayL S least m).getD j Sp.nil) ∧ Below g w w' ∧ w.heap.size ≤ w'.heap.size := by
  have HI := Lib.hid (indexSp_any S least g m cap q hm w hq h)
  have HO := Lib.hid h
  have HQ := Lib.hid hq
  clear h hq
  go_enter Tryz.func54, Tryz.ntmps54
  go_wp2_with fail
  refine HI.out.mono ?_; rintro e w1 ⟨⟨r, rfl, hr⟩, hb1⟩
  have HB1 := Lib.hid hb1
  have HO1 := Lib.hid (HO.out.below hb1)
  have HS1 := hb1.size
  clear hb1 HI HO
  rcases hr with ⟨rfl, hN⟩ | ⟨i0, rfl, hi0, hP, hN⟩
  · have HL := Lib.hid (stayL_all hN)
    clear hN
    go_wp2
    go_ret
    refine ⟨cap, ?_, ?_, (HB1.out.mono (Nat.le_of_lt hgw)), HS1⟩
    · rw [HL.out]; simp
    · rw [HL.out, List.length_map, List.length_range]
      exact HO1.out.congr (fun j hj => by
        unfold cellZ
        have hj9 : j / 9 < m := by omega
        show (S (j / 9)).fld (j % 9) = (((List.range m).map S).getD (j / 9) Sp.nil).fld (j % 9)
        rw [List.getD_eq_getElem?_getD, List.getElem?_map, List.getElem?_range hj9]
        rfl)
  · have HN := Lib.hid hN
    have hne : ((i0 : Int) == -1) = false := by simp
    have HD : Hid (stayL S least (i0 + 1) = stayL S least i0) := Lib.hid (stayL_drop hP)
    have HA : Hid ((stayL S least i0).length = i0) := Lib.hid (by rw [stayL_all hN]; simp)
    have HT : Hid (thin S (stayL S least i0) = S) := Lib.hid (thin_all hN)
    clear hN hP
    go_wp2
    go_loopw [5, 6] (fun i jv wr => ∃ j : Nat, j ≤ m ∧ jv = .int .i64 j ∧ i = .int .i64 (stayL S least j).length ∧ (stayL S least j).length < j ∧ Hid (OutZ wr g (m * 9) (cellZ (thin S (stayL S least j)))) ∧ Hid (Below g w wr) ∧ Hid (w.heap.size ≤ wr.heap.size)) (fun _ jv _ => m - (intOf jv).toNat)
    case atStart => exact ⟨i0 + 1, by omega, by go_num, by rw [HD.out, HA.out], by rw [HD.out, HA.out]; omega, Lib.hid (by rw [HD.out, HT.out]; exact HO1.out), Lib.hid (HB1.out.mono (Nat.le_of_lt hgw)), Lib.hid HS1⟩
    case round =>
      clear HD HA HT HN HO1
      obtain ⟨j, hj, rfl, rfl, hlj, hO, hB, hZ⟩ := hrel
      by_cases hlt : j < m
      · obtain ⟨c0, c1, c2, c3, c4, c5, c6, c7, c8⟩ := cell9' hO.out hlt
        rw [thin_at] at c0 c1 c2 c3 c4 c5 c6 c7 c8
        have HK := Lib.hid (fun h => stayL_keep (S := S) (least := least) (j := j) h)
        have HDr := Lib.hid (fun h => stayL_drop (S := S) (least := least) (j := j) h)
        have HTP := Lib.hid (thin_put S (stayL S least j) (S j))
        obtain ⟨s, hs⟩ : ∃ s, S j = s := ⟨_, rfl⟩
        rw [hs] at c0 c1 c2 c3 c4 c5 c6 c7 c8 HK HDr HTP
        clear hs
        obtain ⟨sL, sT, sR, sO, sP, sI, sX, sY, sS⟩ := s
        have hba : ∀ o, Below wr.heap.size wr (wr.alloc o) := fun o => (Below.refl _ _).alloc (Nat.le_refl _) _
        have hzr := hZ.out
        have hqw : q < wr.heap.size := by omega
        have HF := Lib.hid (fun o => few_any ⟨sL, sT, sR, sO, sP, sI, sX, sY, sS⟩ least q (wr.alloc o) (by rw [(hba o).cell (p := ⟨q, 0, none⟩) hqw, hB.out.cell (p := ⟨q, 0, none⟩) hqg]; exact HQ.out))
        unfold aggSp at HF
        go_wp2_with fail
        refine (HF.out _).mono ?_; rintro e w2 ⟨rfl, hb2⟩
        obtain ⟨n0, n1, n2, n3, n4, n5, n6, n7, n8⟩ : (w2.cell? ⟨wr.heap.size, 0, none⟩ = some (.int .i64 sL) ∧ w2.cell? ⟨wr.heap.size, 1, none⟩ = some (.int .i64 sT) ∧ w2.cell? ⟨wr.heap.size, 2, none⟩ = some (.int .i64 sR) ∧ w2.cell? ⟨wr.heap.size, 3, none⟩ = some (.int .i64 sO) ∧ w2.cell? ⟨wr.heap.size, 4, none⟩ = some (.int .i64 sP) ∧ w2.cell? ⟨wr.heap.size, 5, none⟩ = some (.int .i64 sI) ∧ w2.cell? ⟨wr.heap.size, 6, none⟩ = some (.int .i64 sX) ∧ w2.cell? ⟨wr.heap.size, 7, none⟩ = some (.int .i64 sY) ∧ w2.cell? ⟨wr.heap.size, 8, none⟩ = some (.int .i64 sS)) := by
          refine ⟨?_, ?_, ?_, ?_, ?_, ?_, ?_, ?_, ?_⟩
          all_goals
            rw [hb2.cell (by simp)]
            simp
        have hbr := below_step (hba _) hb2
        have HO2 := Lib.hid (hO.out.below hbr)
        have hgr : g ≤ wr.heap.size := by omega
        have HB2 := Lib.hid (hB.out.trans (hbr.mono hgr))
        have HZ2 := Lib.hid (Nat.le_trans hZ.out hbr.size)
        clear c0 c1 c2 c3 c4 c5 c6 c7 c8 hb2 hO hB hZ HF hbr hba
        by_cases hP : sP < least
        · have d : decide (sP < least) = true := by simpa using hP
          have HE := Lib.hid (HDr.out hP)
          go_wp2
          go_roundw
          case rel => exact ⟨j + 1, by omega, by go_num, by rw [HE.out], by rw [HE.out]; omega, Lib.hid (by rw [HE.out]; exact HO2.out), HB2, HZ2⟩
          case measure => simp [intOf]; omega
        · have d : decide (sP < least) = false := by simpa using hP
          have HE := Lib.hid (HK.out (by first | exact hP | omega))
          have hlm : (stayL S least j).length < m := by omega
          obtain ⟨f0, f1, f2, f3, f4, f5, f6, f7, f8⟩ := frz9 HO2.out hlm
          obtain ⟨c0, c1, c2, c3, c4, c5, c6, c7, c8⟩ := cell9' HO2.out hlm
          have HN := Lib.hid (HO2.out.spot hlm ⟨sL, sT, sR, sO, sP, sI, sX, sY, sS⟩)
          rw [← HTP.out, ← HE.out] at HN
          have HLe : Hid ((stayL S least (j + 1)).length = (stayL S least j).length + 1) := Lib.hid (by rw [HE.out, List.length_append]; rfl)
          generalize (stayL S least j).length = i at *
          generalize thin S (stayL S least j) i = old at *
          obtain ⟨oL, oT, oR, oO, oP, oI, oX, oY, oS⟩ := old
          simp only at c0 c1 c2 c3 c4 c5 c6 c7 c8
          go_wp2
          go_roundw
          case rel => exact ⟨j + 1, by omega, by go_num, by rw [HLe.out]; go_num, by rw [HLe.out]; omega, Lib.hid HN.out, Lib.hid (below_spot HB2.out (Nat.le_refl _)), Lib.hid (by have := HZ2.out; simpa using this)⟩
          case measure => simp [intOf]; omega
      · have e : j = m := by omega
        subst e
        have hOm := hO
        have hlm := hlj
        obtain ⟨vs, hvl, hcl⟩ := run_clear9 wr g ((stayL S least j).length * 9) (j - (stayL S least j).length) (cap - (stayL S least j).length) (by omega) (fun t ht => by rw [(hOm.out ((stayL S least j).length * 9 + t) (by omega)).1]; rfl) (fun t ht => (hOm.out ((stayL S least j).length * 9 + t) (by omega)).2)
        have HF : Hid (OutZ (wr.setCells g ((stayL S least j).length * 9) vs) g ((stayL S least j).length * 9) (cellZ fun q => (stayL S least j).getD q Sp.nil)) := Lib.hid (fun t ht => by
          refine ⟨?_, by rw [World.frozen?_setCells]; exact (hOm.out t (by omega)).2⟩
          rw [World.cell?_setCells_out _ _ _ _ _ (fun _ _ => Or.inl ht), (hOm.out t (by omega)).1]
          unfold cellZ thin
          rw [if_pos (by omega)])
        have HBF : Hid (Below g w (wr.setCells g ((stayL S least j).length * 9) vs)) := Lib.hid (below_setCells hB.out (Nat.le_refl _) _ _)
        have HZF : Hid (w.heap.size ≤ (wr.setCells g ((stayL S least j).length * 9) vs).heap.size) := Lib.hid (by rw [size_setCells9]; exact hZ.out)
        clear hO hOm hB hZ
        generalize hli : (stayL S least j).length = i at *
        have HLI := Lib.hid hli
        clear hli
        go_wp2
        go_ret
        rw [HLI.out]
        exact ⟨_, rfl, HF.out, HBF.out, HZF.out⟩
theorem frozen_setCells (b : Nat) (vs : List Value) (o : Nat) (w : World) (x : Addr) : (w.setCells b o vs).frozen? x = w.frozen? x := World.frozen?_setCells ..
end Go.Proofs.YthbekddpnkammaaGreatDoor
