/- A moved picture's spots: plain laws. -/
import Derived.Test.YthbekddpnkammaaDoorFnd0
import Derived.Test.YthbekddpnkammaaDoorProp
namespace Go.Proofs.YthbekddpnkammaaDoor
open Go.RowKit

/-- Lit pixels, moved. -/
structure Moved (A B : Nat → Bool) (W n d dx dy : Nat) : Prop where
  w : 0 < W
  dn : d ≤ n
  fwd : ∀ k, k < n → A k = true → k + d < n ∧ B (k + d) = true ∧ (k + d) % W = k % W + dx ∧ (k + d) / W = k / W + dy
  bwd : ∀ k, k < n → B k = true → ∃ j, k = j + d ∧ A j = true ∧ j < n
section
variable {A B : Nat → Bool} {W n d dx dy : Nat}
theorem Moved.adj (h : Moved A B W n d dx dy) {k m : Nat} (hk : A k = true) (hm : A m = true) (a : Adj W n k m) : Adj W n (k + d) (m + d) := by
  obtain ⟨h1, h2, h3, dy', dx', a1, a2, b1, b2, e, c1, c2⟩ := a
  have p := place_at h.w e c1 c2
  obtain ⟨k1, _, k3, _⟩ := h.fwd k h1 hk
  obtain ⟨m1, _, m3, _⟩ := h.fwd m h2 hm
  have hl := Nat.mod_lt (m + d) h.w
  refine ⟨k1, m1, by omega, dy', dx', a1, a2, b1, b2, by push_cast; omega, by omega, by omega⟩
theorem Moved.adj' (h : Moved A B W n d dx dy) {k m : Nat} (hk0 : k < n) (hm0 : m < n) (hk : A k = true) (hm : A m = true) (a : Adj W n (k + d) (m + d)) : Adj W n k m := by
  obtain ⟨h1, h2, h3, dy', dx', a1, a2, b1, b2, e, c1, c2⟩ := a
  have p := place_at h.w e c1 c2
  obtain ⟨k1, _, k3, _⟩ := h.fwd k hk0 hk
  obtain ⟨m1, _, m3, _⟩ := h.fwd m hm0 hm
  have hl := Nat.mod_lt m h.w
  refine ⟨hk0, hm0, by omega, dy', dx', a1, a2, b1, b2, by push_cast at e; omega, by omega, by omega⟩
theorem Moved.conn (h : Moved A B W n d dx dy) {a b : Nat} (c : Conn A W n a b) : Conn B W n (a + d) (b + d) := by
  induction c with
  | refl h1 h2 => exact Conn.refl (h.fwd _ h2 h1).2.1 (h.fwd _ h2 h1).1
  | step h0 h1 h2 ih => exact ih.step (h.adj h0.lit2.1 h2 h1) (h.fwd _ h1.2.1 h2).2.1
theorem Moved.conn' (h : Moved A B W n d dx dy) {a' b' : Nat} (c : Conn B W n a' b') : ∃ a b, a' = a + d ∧ b' = b + d ∧ Conn A W n a b := by
  induction c with
  | refl h1 h2 =>
    obtain ⟨j, rfl, hj, hl⟩ := h.bwd _ h2 h1
    exact ⟨j, j, rfl, rfl, Conn.refl hj hl⟩
  | step h0 h1 h2 ih =>
    obtain ⟨a, b, rfl, rfl, hc⟩ := ih
    obtain ⟨j, rfl, hj, hl⟩ := h.bwd _ h1.2.1 h2
    exact ⟨a, j, rfl, rfl, hc.step (h.adj' hc.lit2.2 hl hc.lit2.1 hj h1) hj⟩
theorem Moved.root (h : Moved A B W n d dx dy) {r : Nat} (hr : Root A W n r) : Root B W n (r + d) := by
  obtain ⟨h1, h2, h3⟩ := hr
  obtain ⟨f1, f2, _⟩ := h.fwd r h2 h1
  refine ⟨f2, f1, fun j hj hc => ?_⟩
  obtain ⟨a, b, rfl, e, hc'⟩ := h.conn' hc
  obtain rfl : b = r := by omega
  exact h3 a (by omega) hc'
theorem Moved.root' (h : Moved A B W n d dx dy) {r' : Nat} (hr : Root B W n r') : ∃ r, r' = r + d ∧ Root A W n r := by
  obtain ⟨h1, h2, h3⟩ := hr
  obtain ⟨j, rfl, hj, hl⟩ := h.bwd _ h2 h1
  exact ⟨j, rfl, hj, hl, fun i hi hc => h3 (i + d) (by omega) (h.conn hc)⟩
theorem Moved.rc (h : Moved A B W n d dx dy) : ∀ i, Go.Proofs.YthbekddpnkammaaDoor.rc B W n (i + d) = Go.Proofs.YthbekddpnkammaaDoor.rc A W n i
  | 0 => by
    have key : ∀ i, i ≤ d → Go.Proofs.YthbekddpnkammaaDoor.rc B W n i = 0 := by
      intro i
      induction i with
      | zero => intro _; rfl
      | succ i ih =>
        intro hi
        rw [rc_not (fun hr => by obtain ⟨r, e, _⟩ := h.root' hr; omega), ih (by omega)]
    rw [Nat.zero_add, key d (Nat.le_refl _)]
    rfl
  | i + 1 => by
    have ih := Moved.rc h i
    rw [show i + 1 + d = (i + d) + 1 by omega]
    by_cases c : Root A W n i
    · rw [rc_root c, rc_root (h.root c), ih]
    · rw [rc_not c, rc_not (fun hr => by
        obtain ⟨r, e, hr'⟩ := h.root' hr
        obtain rfl : i = r := by omega
        exact c hr'), ih]
theorem Moved.parts (h : Moved A B W n d dx dy) : Go.Proofs.YthbekddpnkammaaDoor.rc B W n n = Go.Proofs.YthbekddpnkammaaDoor.rc A W n n := by
  have e : ∀ i, n ≤ i + d → i ≤ n → Go.Proofs.YthbekddpnkammaaDoor.rc A W n i = Go.Proofs.YthbekddpnkammaaDoor.rc A W n (n - d) := by
    intro i
    induction i with
    | zero => intro h1 h2; rw [show n - d = 0 by omega]
    | succ i ih =>
      intro h1 h2
      by_cases c : n ≤ i + d
      · rw [rc_not (fun hr => by have := (h.fwd i hr.2.1 hr.1).1; omega), ih c (by omega)]
      · rw [show i + 1 = n - d by omega]
  have h1 := h.rc (n - d)
  have hd := h.dn
  rw [show n - d + d = n by omega] at h1
  rw [h1, e n (by omega) (Nat.le_refl _)]
theorem fi_at {lit : Nat → Bool} {M : Nat → Nat} (h : FI lit W n n M) {k : Nat} (hk : k < n) (hl : lit k = false) : M k = 0 := by
  by_cases c : M k = 0
  · exact c
  · have := (fi_lit h hk).2 c
    rw [hl] at this
    cases this
theorem Moved.label (h : Moved A B W n d dx dy) {Ma Mb : Nat → Nat} (ha : FI A W n n Ma) (hb : FI B W n n Mb) {i : Nat} (hi : i + d < n) : Mb (i + d) = Ma i := by
  cases hl : A i with
  | true =>
    obtain ⟨r, h1, h2, _⟩ := root_exists hl (show i < n by omega)
    rw [(ha i (by omega)).2 r h1 h1.2.1 h2, (hb (i + d) hi).2 (r + d) (h.root h1) (h.root h1).2.1 (h.conn h2), show r + d + 1 = r + 1 + d by omega, h.rc]
  | false =>
    rw [fi_at ha (by omega) hl, fi_at hb hi (by
      cases hl2 : B (i + d) with
      | false => rfl
      | true =>
        obtain ⟨j, e, hj, _⟩ := h.bwd _ hi hl2
        obtain rfl : i = j := by omega
        rw [hl] at hj
        cases hj)]
theorem Moved.first (h : Moved A B W n d dx dy) {Mb : Nat → Nat} (hb : FI B W n n Mb) {i : Nat} (hi : i < d) : Mb i = 0 := by
  have hd := h.dn
  refine fi_at hb (by omega) ?_
  cases hl : B i with
  | false => rfl
  | true =>
    obtain ⟨j, e, _, _⟩ := h.bwd i (by omega) hl
    omega
theorem Moved.last (h : Moved A B W n d dx dy) {Ma : Nat → Nat} (ha : FI A W n n Ma) {i : Nat} (hi : i < n) (h2 : n ≤ i + d) : Ma i = 0 := by
  refine fi_at ha hi ?_
  cases hl : A i with
  | false => rfl
  | true =>
    have := (h.fwd i hi hl).1
    omega
end

/-! ### the spots -/
def shS (dx dy : Nat) (s : Sp) : Sp := ⟨s.L + dx, s.T + dy, s.R + dx, s.Lo + dy, s.P, s.Li, s.X + 1024 * (dx : Int) * s.Li, s.Y + 1024 * (dy : Int) * s.Li, s.SL⟩
def shT (dx dy : Nat) (s : Sp) : Sp := ⟨s.L + dx, s.T + dy, s.R + dx, s.Lo + dy, s.P, s.Li, s.X + 1024 * (dx : Int), s.Y + 1024 * (dy : Int), s.SL⟩
def Sh (dx dy : Nat) (s t : Sp) : Prop := (s = Sp.nil ∧ t = Sp.nil) ∨ (0 < s.P ∧ t = shS dx dy s)
theorem mul_more (x e l : Int) : (1024 * (x + e) + 512) * l = (1024 * x + 512) * l + 1024 * e * l := by
  rw [Int.mul_add, Int.add_right_comm, Int.add_mul]
theorem sh_add {W i j dx dy : Nat} {la lb : Nat → Int} {s : Sp} (hx : j % W = i % W + dx) (hy : j / W = i / W + dy) (hl : lb j = la i) : addS W lb j (shS dx dy s) = shS dx dy (addS W la i s) := by
  unfold addS shS
  simp only
  rw [hx, hy, hl]
  push_cast
  rw [mul_more, mul_more, Int.mul_add, Int.mul_add]
  congr 1
  all_goals omega
theorem sh_first {W i j dx dy : Nat} {la lb : Nat → Int} (hx : j % W = i % W + dx) (hy : j / W = i / W + dy) (hl : lb j = la i) : addS W lb j (firstS W j) = shS dx dy (addS W la i (firstS W i)) := by
  have e : firstS W j = shS dx dy (firstS W i) := by
    unfold firstS shS
    simp only
    rw [hx, hy]
    push_cast
    rw [Int.mul_zero, Int.mul_zero]
    congr 1
  rw [e, sh_add hx hy hl]
theorem Sh.upd {W i j dx dy : Nat} {la lb : Nat → Int} {s t : Sp} (h : Sh dx dy s t) (hx : j % W = i % W + dx) (hy : j / W = i / W + dy) (hl : lb j = la i) : Sh dx dy (updS W la i s) (updS W lb j t) := by
  unfold updS
  rcases h with ⟨rfl, rfl⟩ | ⟨h1, rfl⟩
  · have e0 : Sp.nil.P = 0 := rfl
    rw [if_pos e0, if_pos e0]
    exact Or.inr ⟨by show (0 : Int) < 0 + 1; decide, sh_first hx hy hl⟩
  · rw [if_neg (by omega), if_neg (by show ¬ s.P = 0; omega)]
    exact Or.inr ⟨by show 0 < s.P + 1; omega, sh_add hx hy hl⟩
theorem stS_still {W a b p : Nat} {l : Nat → Int} {M : Nat → Nat} (hab : a ≤ b) (h : ∀ j, a ≤ j → j < b → M j ≠ p + 1) : stS W l M p b = stS W l M p a := by
  obtain ⟨e, rfl⟩ : ∃ e, b = a + e := ⟨b - a, by omega⟩
  clear hab
  induction e with
  | zero => rfl
  | succ e ih => rw [← Nat.add_assoc, stS_miss _ _ _ (h (a + e) (by omega) (by omega)), ih (fun j h1 h2 => h j h1 (by omega))]
theorem Moved.spot {A B : Nat → Bool} {W n d dx dy : Nat} {Ma Mb : Nat → Nat} {la lb : Nat → Int} (h : Moved A B W n d dx dy) (ha : FI A W n n Ma) (hb : FI B W n n Mb) (hv : ∀ i, i < n → A i = true → lb (i + d) = la i) (p : Nat) : ∀ i, i + d ≤ n → Sh dx dy (stS W la Ma p i) (stS W lb Mb p (i + d))
  | 0, hi => by
    left
    refine ⟨rfl, ?_⟩
    rw [Nat.zero_add, stS_still (a := 0) (Nat.zero_le _) (fun j _ hj => by rw [h.first hb hj]; omega)]
    rfl
  | i + 1, hi => by
    have ih := Moved.spot h ha hb hv p i (by omega)
    have hm := h.label ha hb (i := i) (by omega)
    rw [show i + 1 + d = (i + d) + 1 by omega]
    by_cases c : Ma i = p + 1
    · have hl := (fi_lit ha (k := i) (by omega)).2 (by omega)
      obtain ⟨_, _, f3, f4⟩ := h.fwd i (by omega) hl
      rw [stS_hit _ _ _ c, stS_hit _ _ _ (by rw [hm]; exact c)]
      exact ih.upd f3 f4 (hv i (by omega) hl)
    · rw [stS_miss _ _ _ c, stS_miss _ _ _ (by rw [hm]; exact c)]
      exact ih
theorem Moved.spots {A B : Nat → Bool} {W n d dx dy : Nat} {Ma Mb : Nat → Nat} {la lb : Nat → Int} (h : Moved A B W n d dx dy) (ha : FI A W n n Ma) (hb : FI B W n n Mb) (hv : ∀ i, i < n → A i = true → lb (i + d) = la i) (p : Nat) : Sh dx dy (stS W la Ma p n) (stS W lb Mb p n) := by
  have hd := h.dn
  have h1 := h.spot ha hb hv p (n - d) (by omega)
  rw [show n - d + d = n by omega] at h1
  rwa [stS_still (a := n - d) (b := n) (M := Ma) (by omega) (fun j h1 h2 => by rw [h.last ha h2 (by omega)]; omega)]
theorem stayL_sh {S R : Nat → Sp} {dx dy : Nat} (h : ∀ p, Sh dx dy (S p) (R p)) : ∀ m, stayL R 1 m = (stayL S 1 m).map (shS dx dy)
  | 0 => rfl
  | m + 1 => by
    have ih := stayL_sh h m
    rcases h m with ⟨h1, h2⟩ | ⟨h1, h2⟩
    · rw [stayL_drop (by rw [h2]; decide), stayL_drop (by rw [h1]; decide), ih]
    · rw [stayL_keep (by rw [h2]; show ¬ (S m).P < 1; omega), stayL_keep (by omega), ih, h2, List.map_append]
      rfl
theorem placeL_map {g : Sp → Sp} (hg : ∀ s, (g s).Li = s.Li) (L : List Sp) (s : Sp) : placeL (L.map g) (g s) = (placeL L s).map g := by
  have e : (fun x => decide ((g s).Li ≤ x.Li)) ∘ g = fun x => decide (s.Li ≤ x.Li) := by
    funext x
    show decide ((g s).Li ≤ (g x).Li) = _
    rw [hg, hg]
  unfold placeL
  rw [List.takeWhile_map, List.dropWhile_map, e, List.map_append, List.map_cons]
theorem placeAll_map {g : Sp → Sp} (hg : ∀ s, (g s).Li = s.Li) (L : List Sp) : placeAll (L.map g) = (placeAll L).map g := by
  have key : ∀ L acc : List Sp, (L.map g).foldl placeL (acc.map g) = (L.foldl placeL acc).map g := by
    intro L
    induction L with
    | nil => intro acc; rfl
    | cons x L ih => intro acc; rw [List.map_cons, List.foldl_cons, List.foldl_cons, placeL_map hg, ih]
  exact key L []
theorem star_sh {s : Sp} {dx dy : Nat} (h : 1 ≤ s.Li) (hX : 0 ≤ s.X) (hY : 0 ≤ s.Y) : starS (shS dx dy s) = shT dx dy (starS s) := by
  have key : ∀ (x : Int) (e : Nat), 0 ≤ x → (x + 1024 * (e : Int) * s.Li).tdiv s.Li = x.tdiv s.Li + 1024 * (e : Int) := fun x e hx => by
    have h2 : 0 ≤ 1024 * (e : Int) * s.Li := Int.mul_nonneg (by omega) (by omega)
    rw [Int.tdiv_eq_ediv_of_nonneg (by omega), Int.tdiv_eq_ediv_of_nonneg hx, Int.add_mul_ediv_right _ _ (by omega)]
  unfold starS shT shS
  simp only
  rw [key s.X dx hX, key s.Y dy hY]
theorem stS_nn {W n : Nat} {l : Nat → Int} {M : Nat → Nat} (p : Nat) (hl : ∀ i, i < n → M i ≠ 0 → 1 ≤ l i) : ∀ i, i ≤ n → 0 ≤ (stS W l M p i).X ∧ 0 ≤ (stS W l M p i).Y
  | 0, _ => ⟨Int.le_refl _, Int.le_refl _⟩
  | i + 1, hi => by
    have ih := stS_nn (W := W) p hl i (by omega)
    by_cases c : M i = p + 1
    · rw [stS_hit _ _ _ c]
      have h1 := hl i (by omega) (by omega)
      have k : ∀ z : Nat, 0 ≤ (1024 * (z : Int) + 512) * l i := fun z => Int.mul_nonneg (by omega) (by omega)
      unfold updS addS
      split
      · exact ⟨by show 0 ≤ (0 : Int) + _; have := k (i % W); omega, by show 0 ≤ (0 : Int) + _; have := k (i / W); omega⟩
      · exact ⟨by show 0 ≤ (stS W l M p i).X + _; have := k (i % W); omega, by show 0 ≤ (stS W l M p i).Y + _; have := k (i / W); omega⟩
    · rw [stS_miss _ _ _ c]
      exact ih
theorem Moved.found {A B : Nat → Bool} {W n d dx dy : Nat} {Ma Mb : Nat → Nat} {la lb : Nat → Int} (h : Moved A B W n d dx dy) (ha : FI A W n n Ma) (hb : FI B W n n Mb) (hv : ∀ i, i < n → A i = true → lb (i + d) = la i) (hl : ∀ i, i < n → A i = true → 1 ≤ la i) (m : Nat) :
    foundL W lb Mb n m 1 = (foundL W la Ma n m 1).map (shT dx dy) := by
  have hl' : ∀ i, i < n → Ma i ≠ 0 → 1 ≤ la i := fun i hi hm => hl i hi ((fi_lit ha hi).2 hm)
  unfold foundL
  rw [stayL_sh (S := fun p => stS W la Ma p n) (R := fun p => stS W lb Mb p n) (h.spots ha hb hv) m, List.map_map, ← placeAll_map (g := shT dx dy) (fun _ => rfl), List.map_map]
  congr 1
  refine List.map_congr_left (fun s hs => ?_)
  obtain ⟨p, _, rfl, hp⟩ := stayL_mem hs
  have h1 := stS_light (W := W) (l := la) p hl' n (Nat.le_refl _)
  have h2 := stS_nn (W := W) (l := la) p hl' n (Nat.le_refl _)
  exact star_sh (by omega) h2.1 h2.2

/-! ### a small picture in a wide one -/
/-- Counts put at places. -/
def putsF (pos : Nat → Nat) (f : Nat → Int) : Nat → Nat → Int
  | 0, _ => 0
  | i + 1, k => if k = pos i then f i else putsF pos f i k
theorem putsF_some {pos : Nat → Nat} {f : Nat → Int} {n k : Nat} (h : putsF pos f n k ≠ 0) : ∃ i, i < n ∧ k = pos i ∧ putsF pos f n k = f i := by
  induction n with
  | zero => exact absurd rfl h
  | succ n ih =>
    by_cases c : k = pos n
    · exact ⟨n, by omega, c, by rw [putsF, if_pos c]⟩
    · rw [putsF, if_neg c] at h ⊢
      obtain ⟨i, a, b, e⟩ := ih h
      exact ⟨i, by omega, b, e⟩
theorem putsF_at {pos : Nat → Nat} {f : Nat → Int} {n i : Nat} (hi : i < n) (hp : ∀ a b, a < n → b < n → pos a = pos b → a = b) : putsF pos f n (pos i) = f i := by
  have key : ∀ m, i < m → m ≤ n → putsF pos f m (pos i) = f i := by
    intro m
    induction m with
    | zero => intro h; omega
    | succ m ih =>
      intro h1 h2
      by_cases c : pos i = pos m
      · rw [putsF, if_pos c, hp i m (by omega) (by omega) c]
      · rw [putsF, if_neg c]
        exact ih (by have : i ≠ m := fun e => c (by rw [e]); omega) (by omega)
  exact key n hi (Nat.le_refl _)
theorem putsF_bd {pos : Nat → Nat} {f : Nat → Int} {n k : Nat} (h : ∀ i, i < n → 0 ≤ f i ∧ f i ≤ 65535) : 0 ≤ putsF pos f n k ∧ putsF pos f n k ≤ 65535 := by
  by_cases c : putsF pos f n k = 0
  · rw [c]; exact ⟨by decide, by decide⟩
  · obtain ⟨i, hi, _, e⟩ := putsF_some c
    rw [e]; exact h i hi
/-- How many are not 0. -/
def nz (g : Nat → Int) : Nat → Nat
  | 0 => 0
  | n + 1 => nz g n + if g n = 0 then 0 else 1
theorem nz_same {g h : Nat → Int} {n : Nat} (e : ∀ j, j < n → g j = h j) : nz g n = nz h n := by
  induction n with
  | zero => rfl
  | succ n ih => rw [nz, nz, ih (fun j hj => e j (by omega)), e n (by omega)]
theorem nz_put {g h : Nat → Int} {k0 n : Nat} (e : ∀ j, j ≠ k0 → h j = g j) : nz h n ≤ nz g n + 1 := by
  induction n with
  | zero => exact Nat.zero_le _
  | succ n ih =>
    rw [nz, nz]
    by_cases c : n = k0
    · rw [nz_same (g := h) (h := g) (fun j hj => e j (by omega))]
      split <;> split <;> omega
    · rw [e n c]
      omega
theorem nz_puts (pos : Nat → Nat) (f : Nat → Int) (N : Nat) : ∀ n, nz (putsF pos f n) N ≤ n
  | 0 => by
    have : ∀ N, nz (putsF pos f 0) N = 0 := by
      intro N
      induction N with
      | zero => rfl
      | succ N ih =>
        have e0 : putsF pos f 0 N = 0 := rfl
        rw [nz, ih, if_pos e0]
    rw [this]; exact Nat.le_refl _
  | n + 1 => by
    have ih := nz_puts pos f N n
    have h := nz_put (g := putsF pos f n) (h := putsF pos f (n + 1)) (k0 := pos n) (n := N) (fun j hj => by rw [putsF, if_neg hj])
    omega
theorem tl_counts {q : Nat → Nat} {g : Nat → Int} (h0 : ∀ j, 0 ≤ g j) : ∀ n, (∀ j, j < n → q j = 0) → (tlL q g 0 n).length = n ∧ ltC (tlL q g 0 n) 0 = 0 ∧ eqC (tlL q g 0 n) 0 + nz g n = n
  | 0, _ => ⟨rfl, rfl, rfl⟩
  | n + 1, hq => by
    obtain ⟨i1, i2, i3⟩ := tl_counts h0 n (fun j hj => hq j (by omega))
    have hg := h0 n
    rw [tlL_hit (hq n (by omega))]
    refine ⟨by rw [List.length_append, i1]; rfl, ?_, ?_⟩
    · unfold ltC at i2 ⊢
      rw [List.countP_append, i2, List.countP_singleton, if_neg (by simp; omega)]
    · unfold eqC at i3 ⊢
      rw [List.countP_append, List.countP_singleton, nz]
      by_cases c : g n = 0
      · rw [if_pos (by simpa using c), if_pos c]; omega
      · rw [if_neg (by simpa using c), if_neg c]; omega
theorem med_zero {q : Nat → Nat} {g : Nat → Int} {n : Nat} (h0 : ∀ j, 0 ≤ g j) (hq : ∀ j, j < n → q j = 0) (hn : 2 * nz g n < n) : medL (tlL q g 0 n) = 0 := by
  obtain ⟨h1, h2, h3⟩ := tl_counts h0 n hq
  refine mid_one (medL_mid ?_) ?_
  · intro e
    rw [e] at h1
    have : (0 : Nat) = n := h1
    omega
  · unfold isMid
    rw [h1, h2]
    omega
end Go.Proofs.YthbekddpnkammaaDoor

namespace Go.Proofs.YthbekddpnkammaaDoor
open Go.RowKit

/-- The place of a pixel in the wide picture. -/
def posM (W dx dy i : Nat) : Nat := (i / W + 1 + dy) * (W + 30) + (i % W + 1 + dx)
theorem pos_parts {W dx dy i : Nat} (hW : 1 ≤ W) (hdx : dx ≤ 10) : posM W dx dy i % (W + 30) = i % W + 1 + dx ∧ posM W dx dy i / (W + 30) = i / W + 1 + dy := by
  have h := Nat.mod_lt i (show 0 < W by omega)
  unfold posM
  generalize i / W + 1 + dy = y
  generalize i % W = x at *
  refine ⟨?_, ?_⟩
  · rw [Nat.mul_comm, Nat.mul_add_mod, Nat.mod_eq_of_lt (by omega)]
  · rw [Nat.mul_comm, Nat.mul_add_div (by omega), Nat.div_eq_of_lt (by omega), Nat.add_zero]
theorem pos_inj {W dx dy n : Nat} (hW : 1 ≤ W) (hdx : dx ≤ 10) : ∀ a b, a < n → b < n → posM W dx dy a = posM W dx dy b → a = b := by
  intro a b _ _ e
  obtain ⟨a1, a2⟩ := pos_parts (dy := dy) (i := a) hW hdx
  obtain ⟨b1, b2⟩ := pos_parts (dy := dy) (i := b) hW hdx
  rw [e] at a1 a2
  have h1 : a % W = b % W := by omega
  have h2 : a / W = b / W := by omega
  rw [← Nat.div_add_mod a W, ← Nat.div_add_mod b W, h1, h2]
theorem pos_row {W H i : Nat} (hW : 1 ≤ W) (hi : i < W * H) : i / W < H ∧ i % W < W :=
  ⟨(Nat.div_lt_iff_lt_mul (by omega)).2 (by rw [Nat.mul_comm]; exact hi), Nat.mod_lt _ (by omega)⟩
theorem pos_lt {W H dx dy i : Nat} (hW : 1 ≤ W) (hdx : dx ≤ 10) (hdy : dy ≤ 10) (hi : i < W * H) : posM W dx dy i < (W + 30) * (H + 30) := by
  obtain ⟨h1, h2⟩ := pos_row hW hi
  unfold posM
  have h3 : (i / W + 1 + dy + 1) * (W + 30) ≤ (H + 30) * (W + 30) := Nat.mul_le_mul_right _ (by omega)
  rw [Nat.add_mul, Nat.one_mul] at h3
  rw [Nat.mul_comm (W + 30) (H + 30)]
  omega
theorem pos_shift (W dx dy i : Nat) : posM W dx dy i = posM W 0 0 i + (dy * (W + 30) + dx) := by
  unfold posM
  rw [Nat.add_mul (i / W + 1) dy, Nat.add_zero (i / W + 1), Nat.add_zero (i % W + 1)]
  generalize (i / W + 1) * (W + 30) = u
  generalize dy * (W + 30) = v
  omega
/-- The wide picture. -/
def wideF (W dx dy n0 : Nat) (f : Nat → Int) : Nat → Int := putsF (posM W dx dy) f n0
section
variable {W H dx dy : Nat} {f : Nat → Int}
theorem tk_one {V K k : Nat} (hV : 1 ≤ V) (hV2 : V ≤ 50) (hK2 : K ≤ 50) (hk : k < V * K) : tkF V 256 k = 0 := by
  have h1 : k / V < K := (Nat.div_lt_iff_lt_mul (by omega)).2 (by rw [Nat.mul_comm]; exact hk)
  have h2 := Nat.mod_lt k (show 0 < V by omega)
  unfold tkF
  rw [Nat.div_eq_of_lt (show k / V < 256 by omega), Nat.div_eq_of_lt (show k % V < 256 by omega), Nat.zero_mul]
theorem area_small (hW2 : W ≤ 20) (hH2 : H ≤ 20) : 2 * (W * H) < (W + 30) * (H + 30) := by
  have h1 : W * H ≤ 20 * H := Nat.mul_le_mul_right _ hW2
  rw [Nat.add_mul, Nat.mul_add]
  omega
theorem wide_bd (hf : ∀ i, i < W * H → 0 ≤ f i ∧ f i ≤ 65535) (k : Nat) : 0 ≤ wideF W dx dy (W * H) f k ∧ wideF W dx dy (W * H) f k ≤ 65535 := putsF_bd hf
theorem less_wide (hW2 : W ≤ 20) (hH2 : H ≤ 20) (hf : ∀ i, i < W * H → 0 ≤ f i ∧ f i ≤ 65535) {k : Nat} (hk : k < (W + 30) * (H + 30)) :
    lessF (W + 30) 256 (wideF W dx dy (W * H) f) ((W + 30) * (H + 30)) k = wideF W dx dy (W * H) f k := by
  have hq : ∀ j, j < (W + 30) * (H + 30) → tkF (W + 30) 256 j = 0 := fun j hj => tk_one (by omega) (by omega) (K := H + 30) (by omega) hj
  unfold lessF
  rw [hq k hk, med_zero (fun j => (wide_bd hf j).1) hq (by
    have h1 := nz_puts (posM W dx dy) f ((W + 30) * (H + 30)) (W * H)
    have h2 := area_small hW2 hH2
    show 2 * nz (putsF (posM W dx dy) f (W * H)) ((W + 30) * (H + 30)) < _
    omega)]
  omega
/-- A lit pixel of the wide picture is one of the small one. -/
theorem lit_pos {over : Int} (hW : 1 ≤ W) (hdx : dx ≤ 10) (ho : 1 ≤ over) {k : Nat} (h : over < wideF W dx dy (W * H) f k) : ∃ i, i < W * H ∧ k = posM W dx dy i ∧ over < f i := by
  obtain ⟨i, hi, rfl, e⟩ := putsF_some (pos := posM W dx dy) (f := f) (n := W * H) (k := k) (by
    intro e
    have e' : wideF W dx dy (W * H) f k = 0 := e
    omega)
  refine ⟨i, hi, rfl, ?_⟩
  rw [← e]
  exact h
theorem wide_at (hW : 1 ≤ W) (hdx : dx ≤ 10) {i : Nat} (hi : i < W * H) : wideF W dx dy (W * H) f (posM W dx dy i) = f i := putsF_at hi (pos_inj hW hdx)
def litW (W H dx dy : Nat) (over : Int) (f : Nat → Int) (k : Nat) : Bool := decide (over < lessF (W + 30) 256 (wideF W dx dy (W * H) f) ((W + 30) * (H + 30)) k)
theorem moved_wide {over : Int} (hW : 1 ≤ W) (hW2 : W ≤ 20) (hH2 : H ≤ 20) (hdx : dx ≤ 10) (hdy : dy ≤ 10) (ho : 1 ≤ over) (hf : ∀ i, i < W * H → 0 ≤ f i ∧ f i ≤ 65535) :
    Moved (litW W H 0 0 over f) (litW W H dx dy over f) (W + 30) ((W + 30) * (H + 30)) (dy * (W + 30) + dx) dx dy := by
  refine ⟨by omega, ?_, ?_, ?_⟩
  · have h1 : (dy + 1) * (W + 30) ≤ (H + 30) * (W + 30) := Nat.mul_le_mul_right _ (by omega)
    rw [Nat.add_mul, Nat.one_mul] at h1
    rw [Nat.mul_comm (W + 30) (H + 30)]
    omega
  · intro k hk hl
    have hl' := of_decide_eq_true hl
    rw [less_wide hW2 hH2 hf hk] at hl'
    obtain ⟨i, hi, rfl, hv⟩ := lit_pos hW (by omega) ho hl'
    have e := pos_shift W dx dy i
    have hlt := pos_lt (dx := dx) (dy := dy) hW hdx hdy hi
    obtain ⟨p1, p2⟩ := pos_parts (dx := 0) (dy := 0) (i := i) hW (by omega)
    obtain ⟨q1, q2⟩ := pos_parts (dx := dx) (dy := dy) (i := i) hW hdx
    rw [← e, q1, q2, p1, p2]
    refine ⟨hlt, ?_, by omega, by omega⟩
    unfold litW
    rw [less_wide hW2 hH2 hf hlt, wide_at hW hdx hi]
    exact decide_eq_true hv
  · intro k hk hl
    have hl' := of_decide_eq_true hl
    rw [less_wide hW2 hH2 hf hk] at hl'
    obtain ⟨i, hi, rfl, hv⟩ := lit_pos hW hdx ho hl'
    have hlt := pos_lt (dx := 0) (dy := 0) hW (by omega) (by omega) hi
    refine ⟨posM W 0 0 i, pos_shift W dx dy i, ?_, hlt⟩
    unfold litW
    rw [less_wide hW2 hH2 hf hlt, wide_at hW (by omega) hi]
    exact decide_eq_true hv
theorem moved_found {over : Int} (hW : 1 ≤ W) (hW2 : W ≤ 20) (hH2 : H ≤ 20) (hdx : dx ≤ 10) (hdy : dy ≤ 10) (ho : 1 ≤ over) (hf : ∀ i, i < W * H → 0 ≤ f i ∧ f i ≤ 65535) {Ma Mb : Nat → Nat}
    (ha : FI (litW W H 0 0 over f) (W + 30) ((W + 30) * (H + 30)) ((W + 30) * (H + 30)) Ma) (hb : FI (litW W H dx dy over f) (W + 30) ((W + 30) * (H + 30)) ((W + 30) * (H + 30)) Mb) :
    foundL (W + 30) (lessF (W + 30) 256 (wideF W dx dy (W * H) f) ((W + 30) * (H + 30))) Mb ((W + 30) * (H + 30)) (rc (litW W H dx dy over f) (W + 30) ((W + 30) * (H + 30)) ((W + 30) * (H + 30))) 1
      = (foundL (W + 30) (lessF (W + 30) 256 (wideF W 0 0 (W * H) f) ((W + 30) * (H + 30))) Ma ((W + 30) * (H + 30)) (rc (litW W H 0 0 over f) (W + 30) ((W + 30) * (H + 30)) ((W + 30) * (H + 30))) 1).map (shT dx dy) := by
  have h := moved_wide (dx := dx) (dy := dy) hW hW2 hH2 hdx hdy ho hf
  rw [h.parts]
  refine h.found ha hb ?_ ?_ _
  · intro k hk hl
    have hl' := of_decide_eq_true hl
    rw [less_wide hW2 hH2 hf hk] at hl' ⊢
    obtain ⟨i, hi, rfl, hv⟩ := lit_pos hW (by omega) ho hl'
    rw [← pos_shift, less_wide hW2 hH2 hf (pos_lt hW hdx hdy hi), wide_at hW hdx hi, wide_at hW (by omega) hi]
  · intro k hk hl
    have hl' := of_decide_eq_true hl
    omega
end
/-! ### bounds of what is found -/
theorem placeL_mem {L : List Sp} {s x : Sp} (h : x ∈ placeL L s) : x = s ∨ x ∈ L := by
  unfold placeL at h
  rw [List.mem_append, List.mem_cons] at h
  rcases h with h | h | h
  · right
    rw [← List.takeWhile_append_dropWhile (p := fun x => decide (s.Li ≤ x.Li)) (l := L), List.mem_append]
    exact Or.inl h
  · exact Or.inl h
  · right
    rw [← List.takeWhile_append_dropWhile (p := fun x => decide (s.Li ≤ x.Li)) (l := L), List.mem_append]
    exact Or.inr h
theorem placeAll_mem {L : List Sp} {x : Sp} (h : x ∈ placeAll L) : x ∈ L := by
  have key : ∀ L acc : List Sp, x ∈ L.foldl placeL acc → x ∈ acc ∨ x ∈ L := by
    intro L
    induction L with
    | nil => intro acc h; exact Or.inl h
    | cons a L ih =>
      intro acc h
      rw [List.foldl_cons] at h
      rcases ih _ h with h | h
      · rcases placeL_mem h with rfl | h
        · exact Or.inr (List.mem_cons_self ..)
        · exact Or.inl h
      · exact Or.inr (List.mem_cons_of_mem _ h)
  rcases key L [] h with h | h
  · cases h
  · exact h
theorem stS_LT {W n : Nat} {l : Nat → Int} {M : Nat → Nat} (p : Nat) (hb : ∀ i, i < n → i % W ≤ 256 ∧ i / W ≤ 256) : ∀ i, i ≤ n → (0 ≤ (stS W l M p i).L ∧ (stS W l M p i).L ≤ 256) ∧ 0 ≤ (stS W l M p i).T ∧ (stS W l M p i).T ≤ 256
  | 0, _ => by
    show (0 ≤ Sp.nil.L ∧ Sp.nil.L ≤ 256) ∧ 0 ≤ Sp.nil.T ∧ Sp.nil.T ≤ 256
    exact ⟨⟨by decide, by decide⟩, by decide, by decide⟩
  | i + 1, hi => by
    have ih := stS_LT (W := W) (l := l) (M := M) p hb i (by omega)
    obtain ⟨b1, b2⟩ := hb i (by omega)
    by_cases c : M i = p + 1
    · rw [stS_hit _ _ _ c]
      unfold updS addS firstS
      generalize i % W = x at *
      generalize i / W = y at *
      split
      · show (0 ≤ min (x : Int) (x : Int) ∧ min (x : Int) (x : Int) ≤ 256) ∧ 0 ≤ (y : Int) ∧ (y : Int) ≤ 256
        omega
      · show (0 ≤ min (stS W l M p i).L (x : Int) ∧ min (stS W l M p i).L (x : Int) ≤ 256) ∧ 0 ≤ (stS W l M p i).T ∧ (stS W l M p i).T ≤ 256
        omega
    · rw [stS_miss _ _ _ c]
      exact ih
/-- What is known of a spot that is found. -/
structure Tame (s : Sp) : Prop where
  l : 0 ≤ s.L ∧ s.L ≤ 256
  t : 0 ≤ s.T ∧ s.T ≤ 256
  x : -1128085742198784 ≤ s.X ∧ s.X ≤ 1128085742198784
  y : -1128085742198784 ≤ s.Y ∧ s.Y ≤ 1128085742198784
theorem found_tame {W H n m : Nat} {l : Nat → Int} {M : Nat → Nat} (hW : 1 ≤ W) (hW2 : W ≤ 256) (hn : n = H * W) (hH2 : H ≤ 256) (hl : ∀ i, i < n → -65535 ≤ l i ∧ l i ≤ 65535) (hp : ∀ i, i < n → M i ≠ 0 → 1 ≤ l i) {s : Sp} (h : s ∈ foundL W l M n m 1) : Tame s := by
  have hb : ∀ i, i < n → i % W ≤ 256 ∧ i / W ≤ 256 := fun i hi => by
    have h1 : i / W < H := (Nat.div_lt_iff_lt_mul (by omega)).2 (by rw [← hn]; exact hi)
    have h2 := Nat.mod_lt i (show 0 < W by omega)
    exact ⟨by omega, by omega⟩
  have hnn : n ≤ 65536 := by
    have := Nat.mul_le_mul hH2 hW2
    omega
  unfold foundL at h
  obtain ⟨t, ht, rfl⟩ := List.mem_map.1 (placeAll_mem h)
  obtain ⟨p, _, rfl, hP⟩ := stayL_mem ht
  have h1 := stS_bd (M := M) hW hW2 (fun i hi => (hb i hi).2) hl p n (Nat.le_refl _)
  have h2 := stS_light (W := W) (l := l) p hp n (Nat.le_refl _)
  have h3 := stS_LT (l := l) (M := M) p hb n (Nat.le_refl _)
  generalize stS W l M p n = s at *
  obtain ⟨p0, p1, l0, l1, x0, x1, y0, y1⟩ := h1
  have hI : 1 ≤ s.Li := by omega
  have hx := tdiv_bd (c := 1128085742198784) hI (show -1128085742198784 ≤ s.X by omega) (show s.X ≤ 1128085742198784 by omega)
  have hy := tdiv_bd (c := 1128085742198784) hI (show -1128085742198784 ≤ s.Y by omega) (show s.Y ≤ 1128085742198784 by omega)
  exact ⟨h3.1, h3.2, hx, hy⟩
end Go.Proofs.YthbekddpnkammaaDoor
