/-
  hashlog's Log: Count, Has, Clash; of a log that is none: all of them. Conditions: the log lies in blocks of its own; texts not too long.
-/
import Derived.Test.YtjbmdeppoobccaaHashSum
import Derived.OwnWalk
namespace Go.Proofs.Ytjbmdeppoobccaa
open Go.RowKit Go.Maps

set_option maxRecDepth 100000 in
theorem lcount_any {w : World} {F : Nat → Prop} {b : Nat} {T : List (List Nat)} (h : LogAt w F b T) :
    Calls Try.prog 38 #[.pointer (some ⟨b, 0, none⟩)] w fun e w' => e = .returned (.int .i64 (T.length : Int)) ∧ w = w' := by
  obtain ⟨mb, one, two, cl, h1, _⟩ := h.ex
  have c1 : w.cell? ⟨b, 1, none⟩ = some (.int .i64 (T.length : Int)) := (cell_of_row _ _ 1 _ _ _ h1).trans rfl
  have cm := Lib.hid (lmade_any h)
  replace h := Lib.hid h
  replace h1 := Lib.hid h1
  go_enter Try.func38, Try.ntmps38
  go_wp2_with fail
  refine cm.out.mono ?_
  rintro e w2 ⟨rfl, rfl⟩
  go_wp2_with fail
  go_ret
  exact ⟨rfl, rfl⟩

theorem sumf_text' {w : World} {ao : Option Addr} {t : List Nat} {m cap : Nat} (em : t.length = m) (hx : TextAt w (.slice ao m cap) t) (hl : m < 1000000000) :
    Calls Try.prog 18 #[.slice ao m cap] w fun e w' => e = .returned (.agg (u8s (sumOf t))) ∧ Below w.heap.size w w' := by
  obtain ⟨ao', cap', e, c1, c2, c3⟩ := hx.ex
  rw [em] at e
  obtain ⟨rfl, rfl⟩ : ao = ao' ∧ cap = cap' := by injection e with e1 _ e3; exact ⟨e1, e3⟩
  have := sumf_any w ao cap t c1 c3 c2 (by omega)
  rwa [em] at this

set_option maxHeartbeats 4000000 in
set_option maxRecDepth 100000 in
theorem lhas_any {w : World} {F : Nat → Prop} {b : Nat} {T : List (List Nat)} (h : LogAt w F b T) (ao : Option Addr) (t : List Nat) (m cap : Nat) (em : t.length = m) (ht : TextAt w (.slice ao m cap) t) (hl : m < 1000000000) (hT : T.length < 1000000000) :
    Calls Try.prog 39 #[.pointer (some ⟨b, 0, none⟩), .slice ao m cap] w fun e w' => e = .returned (.bool (decide (t ∈ T))) ∧ Below w.heap.size w w' := by
  have hd := h.stay (w' := w.drew) (fun _ _ _ => rfl)
  have cm := Lib.hid (lmade_any hd)
  have td : TextAt w.drew (.slice ao m cap) t := ht.drew
  have cs := Lib.hid (sumf_text' em td hl)
  obtain ⟨mb, one, two, cl, h1, ⟨n, C, h2⟩, h3⟩ := hd.ex
  have c0 : w.drew.cell? ⟨b, 0, none⟩ = some (.map (some mb)) := (cell_of_row _ _ 0 _ _ _ h1).trans rfl
  have h32 := length_sumOf t
  have hs32 := sumOf_lt t
  have B0 : Below w.heap.size w w.drew := (Below.refl _ _).drew
  have eD : decide (t ∈ bucket T (sumOf t)) = decide (t ∈ T) := by
    rw [decide_eq_decide, mem_bucket]
    exact ⟨fun h => h.1, fun h => ⟨h, rfl⟩⟩
  replace h := Lib.hid h
  replace hd := Lib.hid hd
  replace h1 := Lib.hid h1
  replace h2 := Lib.hid h2
  replace h3 := Lib.hid h3
  replace ht := Lib.hid ht
  replace td := Lib.hid td
  replace em := Lib.hid em
  replace h32 := Lib.hid h32
  replace hs32 := Lib.hid hs32
  replace B0 := Lib.hid B0
  replace eD := Lib.hid eD
  go_enter Try.func39, Try.ntmps39
  go_wp2_with fail
  refine wp_region_held_drew (S := (fun w' => w'.cell? ⟨b, 0, none⟩ = some (.map (some mb)))) (by kernel_rfl) (c0) (fun hHeld => ?_)
  refine held_take (i := 0) (v := ?_) rfl (by kernel_rfl) (by kernel_rfl) (by kernel_rfl) (fun _ _ _ h => h) (Or.inl ⟨by rfl, ?_⟩) (by assumption) ?_
  rotate_left
  · intro w hSw; (try dsimp only at hSw); go_simp; try with_reducible rfl
  try simp only [Act.put, List.setIfInBounds_toArray, List.set_cons_zero, List.set_cons_succ]
  refine held_ready (i := 1) rfl (by kernel_rfl) (fun K hK => ?_)
  go_simp
  refine cm.out.mono ?_
  rintro e w2 ⟨rfl, rfl⟩
  refine hK.out _ _ (c0) (fun hHeldN => ?_)
  clear hHeld hK K
  have hHeld := hHeldN
  clear hHeldN
  try simp only [Act.put, List.setIfInBounds_toArray, List.set_cons_zero, List.set_cons_succ]
  refine held_take (i := 2) (v := ?_) rfl (by kernel_rfl) (by kernel_rfl) (by kernel_rfl) (fun _ _ _ h => h) (Or.inl ⟨by rfl, ?_⟩) (by assumption) ?_
  rotate_left
  · intro w hSw; (try dsimp only at hSw); go_simp; try with_reducible rfl
  try simp only [Act.put, List.setIfInBounds_toArray, List.set_cons_zero, List.set_cons_succ]
  refine held_take (i := 3) (v := ?_) rfl (by kernel_rfl) (by kernel_rfl) (by kernel_rfl) (fun _ _ _ h => h) (Or.inl ⟨by rfl, ?_⟩) (by assumption) ?_
  rotate_left
  · intro w hSw; (try dsimp only at hSw); go_simp; try with_reducible rfl
  try simp only [Act.put, List.setIfInBounds_toArray, List.set_cons_zero, List.set_cons_succ]
  refine held_take (i := 4) (v := ?_) rfl (by kernel_rfl) (by kernel_rfl) (by kernel_rfl) (fun _ _ _ h => h) (Or.inl ⟨by rfl, ?_⟩) (by assumption) ?_
  rotate_left
  · intro w hSw; (try dsimp only at hSw); go_simp; try with_reducible rfl
  try simp only [Act.put, List.setIfInBounds_toArray, List.set_cons_zero, List.set_cons_succ]
  refine held_take (i := 5) (v := ?_) rfl (by kernel_rfl) (by kernel_rfl) (by kernel_rfl) (fun _ _ _ h => h) (Or.inl ⟨by rfl, ?_⟩) (by assumption) ?_
  rotate_left
  · intro w hSw; (try dsimp only at hSw); go_simp; try with_reducible rfl
  try simp only [Act.put, List.setIfInBounds_toArray, List.set_cons_zero, List.set_cons_succ]
  refine held_take (i := 6) (v := ?_) rfl (by kernel_rfl) (by kernel_rfl) (by kernel_rfl) (fun _ _ _ h => h) (Or.inl ⟨by rfl, ?_⟩) (by assumption) ?_
  rotate_left
  · intro w hSw; (try dsimp only at hSw); go_simp; try with_reducible rfl
  try simp only [Act.put, List.setIfInBounds_toArray, List.set_cons_zero, List.set_cons_succ]
  refine held_take (i := 7) (v := ?_) rfl (by kernel_rfl) (by kernel_rfl) (by kernel_rfl) (fun _ _ _ h => h) (Or.inl ⟨by rfl, ?_⟩) (by assumption) ?_
  rotate_left
  · intro w hSw; (try dsimp only at hSw); go_simp; try with_reducible rfl
  try simp only [Act.put, List.setIfInBounds_toArray, List.set_cons_zero, List.set_cons_succ]
  refine held_take (i := 10) (v := ?_) rfl (by kernel_rfl) (by kernel_rfl) (by kernel_rfl) (fun _ _ _ h => h) (Or.inl ⟨by rfl, ?_⟩) (by assumption) ?_
  rotate_left
  · intro w hSw; (try dsimp only at hSw); go_simp; try with_reducible rfl
  try simp only [Act.put, List.setIfInBounds_toArray, List.set_cons_zero, List.set_cons_succ]
  refine held_ready (i := 8) rfl (by kernel_rfl) (fun K hK => ?_)
  go_simp
  refine cs.out.mono ?_
  rintro e w3 ⟨rfl, B3⟩
  have c3 := (B3.cell (block_lt_of_cell c0)).trans c0
  have l3 := h2.out.stay (fun k _ hk => B3.block k hk)
  have t3 := td.out.below B3
  have B03 := B0.out.trans (B3.mono B0.out.size)
  replace B3 := Lib.hid B3
  replace l3 := Lib.hid l3
  replace t3 := Lib.hid t3
  replace B03 := Lib.hid B03
  refine hK.out _ _ (c3) (fun hHeldN => ?_)
  clear hHeld hK K
  have hHeld := hHeldN
  clear hHeldN
  try simp only [Act.put, List.setIfInBounds_toArray, List.set_cons_zero, List.set_cons_succ]
  obtain ⟨a2, c2, ev, ec2, en2, tx⟩ := (l3.out.row (sumOf t)).texts
  replace ec2 := Lib.hid ec2
  replace en2 := Lib.hid en2
  replace tx := Lib.hid tx
  refine held_ready (i := 9) rfl (by kernel_rfl) (fun K hK => ?_)
  rw [if_pos (by rfl)]
  refine wp_look l3.out (.tmp 11) (.tmp 13) rfl rfl ev h32.out hs32.out rfl ?_
  refine hK.out _ _ (c3) (fun hHeldN => ?_)
  clear hHeld hK K
  have hHeld := hHeldN
  clear hHeldN
  try simp only [Act.put, List.setIfInBounds_toArray, List.set_cons_zero, List.set_cons_succ]
  refine held_ready (i := 11) rfl (by kernel_rfl) (fun K hK => ?_)
  go_simp
  have lenB : (bucket T (sumOf t)).length ≤ T.length := List.length_filter_le _ _
  refine (among_any w3 (.slice ao m cap) t t3.out a2 (bucket T (sumOf t)) (bucket T (sumOf t)).length c2 rfl tx.out (by omega)).mono ?_
  rintro e w4 ⟨rfl, B4⟩
  have B04 := B03.out.trans (B4.mono B03.out.size)
  have c4 := (B4.cell (block_lt_of_cell c3)).trans c3
  replace B04 := Lib.hid B04
  replace B4 := Lib.hid B4
  rw [eD.out]
  refine hK.out _ _ (c4) (fun hHeldN => ?_)
  clear hHeld hK K
  have hHeld := hHeldN
  clear hHeldN
  try simp only [Act.put, List.setIfInBounds_toArray, List.set_cons_zero, List.set_cons_succ]
  refine held_take (i := 12) (v := ?_) rfl (by kernel_rfl) (by kernel_rfl) (by kernel_rfl) (fun _ _ _ h => h) (Or.inl ⟨by rfl, ?_⟩) (by assumption) ?_
  rotate_left
  · intro w hSw; (try dsimp only at hSw); go_simp; try with_reducible rfl
  try simp only [Act.put, List.setIfInBounds_toArray, List.set_cons_zero, List.set_cons_succ]
  refine held_take (i := 13) (v := ?_) rfl (by kernel_rfl) (by kernel_rfl) (by kernel_rfl) (fun _ _ _ h => h) (Or.inl ⟨by rfl, ?_⟩) (by assumption) ?_
  rotate_left
  · intro w hSw; (try dsimp only at hSw); go_simp; try with_reducible rfl
  try simp only [Act.put, List.setIfInBounds_toArray, List.set_cons_zero, List.set_cons_succ]
  refine wpAnyH_done (by kernel_rfl) ?_ _
  clear hHeld
  go_wp2_with fail
  go_ret
  exact ⟨rfl, B04.out⟩

/-- What Clash says. -/
def ClashSays (w : World) (T : List (List Nat)) (e : Ending) (w' : World) : Prop :=
  (match clashOf T with
    | none => e = .returned (.tuple #[.slice none 0 0, .slice none 0 0, .bool false])
    | some (p, q) => ∃ v1 v2, e = .returned (.tuple #[v1, v2, .bool true]) ∧ Own w' w.heap.size 5 v1 (u8l p) ∧ Own w' w.heap.size 5 v2 (u8l q) ∧ (∀ x ∈ p, x < 256) ∧ ∀ x ∈ q, x < 256) ∧ Below w.heap.size w w'

set_option maxHeartbeats 4000000 in
set_option maxRecDepth 100000 in
theorem lclash_any {w : World} {F : Nat → Prop} {b : Nat} {T : List (List Nat)} (h : LogAt w F b T) (hl : ∀ t ∈ T, t.length ≤ 1000000000) :
    Calls Try.prog 41 #[.pointer (some ⟨b, 0, none⟩)] w (ClashSays w T) := by
  have cm := Lib.hid (lmade_any h)
  have hn := h.nodup
  obtain ⟨mb, one, two, cl, h1, _, h3⟩ := h.ex
  have c4 : w.cell? ⟨b, 4, none⟩ = some (.bool cl) := (cell_of_row _ _ 4 _ _ _ h1).trans rfl
  unfold ClashSays
  cases hq : clashOf T with
  | none =>
    rw [hq] at h3
    subst h3
    replace h := Lib.hid h
    replace h1 := Lib.hid h1
    replace hn := Lib.hid hn
    replace hl := Lib.hid hl
    replace hq := Lib.hid hq
    go_enter Try.func41, Try.ntmps41
    go_wp2_with fail
    refine cm.out.mono ?_
    rintro e w2 ⟨rfl, rfl⟩
    go_wp2_with fail
    go_ret3
    exact ⟨rfl, Below.refl _ _⟩
  | some pq =>
    obtain ⟨p, q⟩ := pq
    rw [hq] at h3
    obtain ⟨rfl, o1, o2⟩ := h3
    obtain ⟨m1, m2, _, _⟩ := clashOf_spec hn hq
    have l1 := hl p m1
    have l2 := hl q m2
    have c2 : w.drew.cell? ⟨b, 2, none⟩ = some one := (cell_of_row _ _ 2 _ _ _ h1).trans rfl
    have c3 : w.drew.cell? ⟨b, 3, none⟩ = some two := (cell_of_row _ _ 3 _ _ _ h1).trans rfl
    have t1 := o1.text.drew
    have t2 := o2.text.drew
    have ct := Lib.hid (clone_any w.drew one p t1 l1)
    have B0 : Below w.heap.size w w.drew := (Below.refl _ _).drew
    replace h := Lib.hid h
    replace h1 := Lib.hid h1
    replace hn := Lib.hid hn
    replace hl := Lib.hid hl
    replace hq := Lib.hid hq
    replace o1 := Lib.hid o1
    replace o2 := Lib.hid o2
    replace m1 := Lib.hid m1
    replace m2 := Lib.hid m2
    replace l1 := Lib.hid l1
    replace l2 := Lib.hid l2
    replace t1 := Lib.hid t1
    replace t2 := Lib.hid t2
    replace B0 := Lib.hid B0
    go_enter Try.func41, Try.ntmps41
    go_wp2_with fail
    refine cm.out.mono ?_
    rintro e w2 ⟨rfl, rfl⟩
    go_wp2_with fail
    refine wp_region_held_drew (S := (fun w' => w'.cell? ⟨b, 2, none⟩ = some one ∧ w'.cell? ⟨b, 3, none⟩ = some two)) (by kernel_rfl) (⟨c2, c3⟩) (fun hHeld => ?_)
    refine held_take (i := 0) (v := ?_) rfl (by kernel_rfl) (by kernel_rfl) (by kernel_rfl) (fun _ _ _ h => h) (Or.inl ⟨by rfl, ?_⟩) (by assumption) ?_
    rotate_left
    · intro w hSw; (try dsimp only at hSw); go_simp; try with_reducible rfl
    try simp only [Act.put, List.setIfInBounds_toArray, List.set_cons_zero, List.set_cons_succ]
    refine held_take (i := 1) (v := ?_) rfl (by kernel_rfl) (by kernel_rfl) (by kernel_rfl) (fun _ _ _ h => h) (Or.inl ⟨by rfl, ?_⟩) (by assumption) ?_
    rotate_left
    · intro w hSw; (try dsimp only at hSw); go_simp; try with_reducible rfl
    try simp only [Act.put, List.setIfInBounds_toArray, List.set_cons_zero, List.set_cons_succ]
    refine held_take (i := 2) (v := ?_) rfl (by kernel_rfl) (by kernel_rfl) (by kernel_rfl) (fun _ _ _ h => h) (Or.inl ⟨by rfl, ?_⟩) (by assumption) ?_
    rotate_left
    · intro w hSw; (try dsimp only at hSw); go_simp; try with_reducible rfl
    try simp only [Act.put, List.setIfInBounds_toArray, List.set_cons_zero, List.set_cons_succ]
    refine held_take (i := 3) (v := ?_) rfl (by kernel_rfl) (by kernel_rfl) (by kernel_rfl) (fun _ _ _ h => h) (Or.inl ⟨by rfl, ?_⟩) (by assumption) ?_
    rotate_left
    · intro w hSw; (try dsimp only at hSw); go_simp; try with_reducible rfl
    try simp only [Act.put, List.setIfInBounds_toArray, List.set_cons_zero, List.set_cons_succ]
    refine held_take (i := 5) (v := ?_) rfl (by kernel_rfl) (by kernel_rfl) (by kernel_rfl) (fun _ _ _ h => h) (Or.inl ⟨by rfl, ?_⟩) (by assumption) ?_
    rotate_left
    · intro w hSw; (try dsimp only at hSw); go_simp; try with_reducible rfl
    try simp only [Act.put, List.setIfInBounds_toArray, List.set_cons_zero, List.set_cons_succ]
    refine held_take (i := 6) (v := ?_) rfl (by kernel_rfl) (by kernel_rfl) (by kernel_rfl) (fun _ _ _ h => h) (Or.inl ⟨by rfl, ?_⟩) (by assumption) ?_
    rotate_left
    · intro w hSw; (try dsimp only at hSw); go_simp; try with_reducible rfl
    try simp only [Act.put, List.setIfInBounds_toArray, List.set_cons_zero, List.set_cons_succ]
    refine held_take (i := 7) (v := ?_) rfl (by kernel_rfl) (by kernel_rfl) (by kernel_rfl) (fun _ _ _ h => h) (Or.inl ⟨by rfl, ?_⟩) (by assumption) ?_
    rotate_left
    · intro w hSw; (try dsimp only at hSw); go_simp; try with_reducible rfl
    try simp only [Act.put, List.setIfInBounds_toArray, List.set_cons_zero, List.set_cons_succ]
    refine held_take (i := 8) (v := ?_) rfl (by kernel_rfl) (by kernel_rfl) (by kernel_rfl) (fun _ _ _ h => h) (Or.inl ⟨by rfl, ?_⟩) (by assumption) ?_
    rotate_left
    · intro w hSw; (try dsimp only at hSw); go_simp; try with_reducible rfl
    try simp only [Act.put, List.setIfInBounds_toArray, List.set_cons_zero, List.set_cons_succ]
    refine held_ready (i := 4) rfl (by kernel_rfl) (fun K hK => ?_)
    go_simp
    refine ct.out.mono ?_
    rintro e w3 ⟨v1, rfl, w1, B3⟩
    have c23 := (B3.cell (block_lt_of_cell c2)).trans c2
    have c33 := (B3.cell (block_lt_of_cell c3)).trans c3
    have t23 := t2.out.below B3
    have x1 : Own w3 w.heap.size 5 v1 (u8l p) := w1
    have B03 := B0.out.trans (B3.mono B0.out.size)
    replace w1 := Lib.hid w1
    replace B3 := Lib.hid B3
    replace t23 := Lib.hid t23
    replace x1 := Lib.hid x1
    replace B03 := Lib.hid B03
    refine hK.out _ _ (⟨c23, c33⟩) (fun hHeldN => ?_)
    clear hHeld hK K
    have hHeld := hHeldN
    clear hHeldN
    try simp only [Act.put, List.setIfInBounds_toArray, List.set_cons_zero, List.set_cons_succ]

    refine held_ready (i := 9) rfl (by kernel_rfl) (fun K hK => ?_)
    go_simp
    refine (clone_any w3 two q t23.out l2.out).mono ?_
    rintro e w4 ⟨v2, rfl, w22, B4⟩
    have x2 : Own w4 w.heap.size 5 v2 (u8l q) := w22.weaken (Nat.le_trans B0.out.size (B3.out.size))
    have x14 := x1.out.below B4
    have B04 := B03.out.trans (B4.mono B03.out.size)
    have c24 := (B4.cell (block_lt_of_cell c23)).trans c23
    have c34 := (B4.cell (block_lt_of_cell c33)).trans c33
    replace w22 := Lib.hid w22
    replace B4 := Lib.hid B4
    replace x2 := Lib.hid x2
    replace x14 := Lib.hid x14
    replace B04 := Lib.hid B04
    refine hK.out _ _ (⟨c24, c34⟩) (fun hHeldN => ?_)
    clear hHeld hK K
    have hHeld := hHeldN
    clear hHeldN
    try simp only [Act.put, List.setIfInBounds_toArray, List.set_cons_zero, List.set_cons_succ]
    refine held_take (i := 10) (v := ?_) rfl (by kernel_rfl) (by kernel_rfl) (by kernel_rfl) (fun _ _ _ h => h) (Or.inl ⟨by rfl, ?_⟩) (by assumption) ?_
    rotate_left
    · intro w hSw; (try dsimp only at hSw); go_simp; try with_reducible rfl
    try simp only [Act.put, List.setIfInBounds_toArray, List.set_cons_zero, List.set_cons_succ]
    refine held_take (i := 11) (v := ?_) rfl (by kernel_rfl) (by kernel_rfl) (by kernel_rfl) (fun _ _ _ h => h) (Or.inl ⟨by rfl, ?_⟩) (by assumption) ?_
    rotate_left
    · intro w hSw; (try dsimp only at hSw); go_simp; try with_reducible rfl
    try simp only [Act.put, List.setIfInBounds_toArray, List.set_cons_zero, List.set_cons_succ]
    refine held_take (i := 12) (v := ?_) rfl (by kernel_rfl) (by kernel_rfl) (by kernel_rfl) (fun _ _ _ h => h) (Or.inl ⟨by rfl, ?_⟩) (by assumption) ?_
    rotate_left
    · intro w hSw; (try dsimp only at hSw); go_simp; try with_reducible rfl
    try simp only [Act.put, List.setIfInBounds_toArray, List.set_cons_zero, List.set_cons_succ]
    refine wpAnyH_done (by kernel_rfl) ?_ _
    clear hHeld
    go_wp2_with fail
    go_ret3
    exact ⟨⟨v1, v2, rfl, x14.out, x2.out, t1.out.small, t23.out.small⟩, B04.out⟩

/-! ### A log that is none -/
def LogNot (w : World) (v : Value) : Prop := v = .pointer none ∨ ∃ b, v = .pointer (some ⟨b, 0, none⟩) ∧ w.cell? ⟨b, 0, none⟩ = some (.map none)
set_option maxRecDepth 100000 in
theorem lmade_not {w : World} {v : Value} (h : LogNot w v) : Calls Try.prog 56 #[v] w fun e w' => e = .returned (.bool false) ∧ w = w' := by
  have hn := fun (x : World) => run_neq_map_nil (P := Try.prog) x 72 27 23 none Try.underlying72
  rcases h with rfl | ⟨b, rfl, c0⟩
  · go_enter Try.func56, Try.ntmps56
    go_wp2_with fail
    go_ret
    exact ⟨rfl, rfl⟩
  · go_enter Try.func56, Try.ntmps56
    go_wp2_with fail
    go_ret
    exact ⟨rfl, rfl⟩
set_option maxRecDepth 100000 in
theorem lcount_not {w : World} {v : Value} (h : LogNot w v) : Calls Try.prog 38 #[v] w fun e w' => e = .returned (.int .i64 0) ∧ w = w' := by
  have cm := Lib.hid (lmade_not h)
  replace h := Lib.hid h
  go_enter Try.func38, Try.ntmps38
  go_wp2_with fail
  refine cm.out.mono ?_
  rintro e w2 ⟨rfl, rfl⟩
  go_wp2_with fail
  go_ret
  exact ⟨rfl, rfl⟩
set_option maxRecDepth 100000 in
theorem lclash_not {w : World} {v : Value} (h : LogNot w v) : Calls Try.prog 41 #[v] w fun e w' => e = .returned (.tuple #[.slice none 0 0, .slice none 0 0, .bool false]) ∧ w = w' := by
  have cm := Lib.hid (lmade_not h)
  replace h := Lib.hid h
  go_enter Try.func41, Try.ntmps41
  go_wp2_with fail
  refine cm.out.mono ?_
  rintro e w2 ⟨rfl, rfl⟩
  go_wp2_with fail
  go_ret3
  exact ⟨rfl, rfl⟩
end Go.Proofs.Ytjbmdeppoobccaa
