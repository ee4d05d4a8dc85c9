/-
  Layer 3's law HmacStreams. Condition: none but the texts' reading.
-/
import Derived.Test.YtjbmdeppoobccaaHmacMarks03
namespace Go.Proofs.Ytjbmdeppoobccaa
open Go.RowKit

def expText (key name : List Nat) (n : Int) : List Nat := if n < 0 then [] else if 8160 < n then [] else expandOf key name n.toNat
def expCode (n : Int) : Int := if n < 0 then 1 else if 8160 < n then 2 else 0
theorem expText_small (key name : List Nat) (n : Int) : ∀ x ∈ expText key name n, x < 256 := by
  unfold expText
  split
  · intro x hx; simp at hx
  · split
    · intro x hx; simp at hx
    · exact expandOf_small _ _ _
theorem expand_all (w : World) (key : List Nat) (vn : Value) (name : List Nat) (n : Int) (kl : key.length = 32) (ks : ∀ x ∈ key, x < 256) (hN : TextAt w vn name) (hnl : name.length < 1000000) :
    Calls Try.prog 27 #[.agg (u8s key), vn, .int .i64 n] w fun e w' => ∃ v, e = .returned (.tuple #[v, .int .i64 (expCode n)]) ∧ TextAt w' v (expText key name n) ∧ Below w.heap.size w w' := by
  unfold expCode expText
  by_cases h1 : n < 0
  · simp only [if_pos h1]
    exact (expand_neg w key vn n h1).mono fun e w' ⟨he, hB⟩ => ⟨_, he, TextAt.nil _, hB⟩
  · simp only [if_neg h1]
    by_cases h2 : 8160 < n
    · simp only [if_pos h2]
      exact (expand_long w key vn n h2).mono fun e w' ⟨he, hB⟩ => ⟨_, he, TextAt.nil _, hB⟩
    · simp only [if_neg h2]
      obtain ⟨an, cn, rfl⟩ := hN.form
      obtain ⟨m, rfl⟩ : ∃ m : Nat, n = m := ⟨n.toNat, by omega⟩
      exact (expand_any w key an name.length cn name m kl ks hN rfl hnl (by omega)).mono fun e w' ⟨a, he, hT, hB⟩ => ⟨_, he, by rw [Int.toNat_natCast]; exact hT, hB⟩
theorem ref_expand_all (w : World) (vk vn : Value) (key name : List Nat) (n : Int) (hk : TextAt w vk key) (hN : TextAt w vn name) (h1 : key.length < 900000) (h2 : name.length < 800000) :
    Calls Try.prog 31 #[vk, vn, .int .i64 n] w fun e w' => ∃ v, e = .returned (.tuple #[v, .int .i64 (expCode n)]) ∧ TextAt w' v (expText key name n) ∧ Below w.heap.size w w' := by
  unfold expCode expText
  by_cases g1 : n < 0
  · simp only [if_pos g1]
    exact (ref_expand_neg w vk vn n g1).mono fun e w' ⟨he, hB⟩ => ⟨_, he, TextAt.nil _, by rw [hB]; exact Below.refl _ _⟩
  · simp only [if_neg g1]
    by_cases g2 : 8160 < n
    · simp only [if_pos g2]
      exact (ref_expand_long w vk vn n g2).mono fun e w' ⟨he, hB⟩ => ⟨_, he, TextAt.nil _, by rw [hB]; exact Below.refl _ _⟩
    · simp only [if_neg g2]
      obtain ⟨m, rfl⟩ : ∃ m : Nat, n = m := ⟨n.toNat, by omega⟩
      exact (ref_expand w vk vn key name m hk hN h1 h2 (by omega)).mono fun e w' ⟨a, c, he, hT, hB⟩ => ⟨_, he, by rw [Int.toNat_natCast]; exact hT, hB⟩

/-- What the law's last line reads. -/
structure StrSt (kb z : Nat) (v9 v11 vn : Value) (key E name D : List Nat) (w : World) : Prop where
  key : RowB w kb 49 key
  one : TextAt w v9 E
  two : TextAt w v11 E
  name : TextAt w vn name
  der : RowB w z 49 D
theorem StrSt.below {kb z : Nat} {v9 v11 vn : Value} {key E name D : List Nat} {w w' : World} (h : StrSt kb z v9 v11 vn key E name D w) (hB : Below w.heap.size w w') : StrSt kb z v9 v11 vn key E name D w' :=
  ⟨h.key.other (hB.block _ h.key.lt), h.one.below hB, h.two.below hB, h.name.below hB, h.der.other (hB.block _ h.der.lt)⟩

set_option maxRecDepth 100000 in
set_option maxHeartbeats 4000000 in
theorem streams_any (w : World) (key name : List Nat) (nn : Nat) (an : Option Addr) (cn : Nat) (n : Int) (num : Nat) (kl : key.length = 32) (ks : ∀ x ∈ key, x < 256) (hN : TextAt w (.slice an nn cn) name) (el : name.length = nn) (h1 : nn < 9223372036854775808) (hnum : num < 18446744073709551616) :
    Calls Try.prog 11 #[.agg (u8s key), .slice an nn cn, .int .i64 n, .int .u64 (num : Int)] w fun e w' => e = .returned (.bool true) ∧ Below w.heap.size w w' := by
  replace kl := Lib.hid kl
  replace ks := Lib.hid ks
  replace hN := Lib.hid hN
  replace el := Lib.hid el
  replace hnum := Lib.hid hnum
  have d1 : (100 : Int) < (nn : Int) ∨ ¬ (100 : Int) < (nn : Int) := by omega
  have d2 : (300 < n ∧ n ≤ 8160) ∨ (300 < n ∧ ¬ n ≤ 8160) ∨ ¬ 300 < n := by omega
  rcases d1 with d1 | d1
  ·
    go_enter Try.func11, Try.ntmps11
    go_wp2_with fail
    refine (alive03 _).mono ?_
    rintro e w1 ⟨rfl, B1⟩
    go_wp2_with fail
    go_ret
    exact ⟨rfl, ((Below.refl _ _).alloc (Nat.le_refl _) _).trans (B1.mono (by simp))⟩
  rcases d2 with ⟨d2, d3⟩ | d2
  ·
    go_enter Try.func11, Try.ntmps11
    go_wp2_with fail
    refine (alive03 _).mono ?_
    rintro e w1 ⟨rfl, B1⟩
    go_wp2_with fail
    go_ret
    exact ⟨rfl, ((Below.refl _ _).alloc (Nat.le_refl _) _).trans (B1.mono (by simp))⟩
  have iK := info_key key kl.out
  have ln : name.length < 700000 := by rw [el.out]; omega
  have ex := Lib.hid (fun x p => expand_all x key (.slice an nn cn) name n kl.out ks.out p (by omega))
  have rx := Lib.hid (fun x vk p q => ref_expand_all x vk (.slice an nn cn) key name n p q (by rw [kl.out]; decide) (by omega))
  have nsm := hN.out.small
  have dr := Lib.hid (fun x => derive_any x key (strOf name) num kl.out ks.out (by rw [size_strOf]; omega))
  have rd := Lib.hid (fun x vk p => ref_derive x vk key (strOf name) num p (by rw [kl.out]; decide) (by rw [size_strOf]; omega) hnum.out)
  rw [textOf_strOf nsm] at dr rd
  have esm := expText_small key name n
  obtain ⟨E, hE⟩ : ∃ E, E = expText key name n := ⟨_, rfl⟩
  obtain ⟨cd, hcd⟩ : ∃ cd, cd = expCode n := ⟨_, rfl⟩
  rw [← hE] at ex rx esm
  rw [← hcd] at ex rx
  obtain ⟨D, hD⟩ : ∃ D, D = macs key (name ++ beBytes 8 num ++ [1]) := ⟨_, rfl⟩
  rw [← hD] at dr rd
  have lD : D.length = 32 := by rw [hD]; exact macs_length _ _
  have sD : ∀ x ∈ D, x < 256 := by rw [hD]; exact macs_small _ _
  have iD := info_key D lD
  have lD' : (u8s D).size = 32 := by simp [u8s, lD]
  replace esm := Lib.hid esm
  replace hE := Lib.hid hE
  replace hcd := Lib.hid hcd
  replace hD := Lib.hid hD
  replace lD := Lib.hid lD
  replace sD := Lib.hid sD
  replace nsm := Lib.hid nsm
  rcases d2 with ⟨d2, d3⟩ | d2
  ·
    go_enter Try.func11, Try.ntmps11
    go_wp2_with (first
      | (refine wpList_load_rowg (by rfl) 49 (.tmp 4) rfl w.heap.size rfl 49 (u8s key) (0, 0) _ (heap_alloc_new _ _) Try.underlying49 rfl iK ?_))
    refine name_calls ?_; intro w0 hw0
    have K0 : RowB w0 w.heap.size 49 key := by rw [hw0.out]; exact heap_alloc_new _ _
    have b0 : Below w.heap.size w w0 := by rw [hw0.out]; exact (Below.refl _ _).alloc (Nat.le_refl _) _
    have s0 := b0.size
    replace K0 := Lib.hid K0
    replace b0 := Lib.hid b0
    clear hw0
    refine (ex.out w0 (hN.out.below b0.out)).mono ?_
    rintro e w1 ⟨v9, rfl, T1, B1⟩
    have K1 : RowB w1 w.heap.size 49 key := K0.out.other (B1.block _ K0.out.lt)
    have b1 : Below w.heap.size w w1 := b0.out.trans (B1.mono s0)
    have s1 := b1.size
    replace K1 := Lib.hid K1
    replace b1 := Lib.hid b1
    replace T1 := Lib.hid T1
    replace B1 := Lib.hid B1
    go_wp2_with fail
    refine (rx.out w1 _ (K1.out.text ks.out kl.out) (hN.out.below b1.out)).mono ?_
    rintro e w2 ⟨v11, rfl, T2, B2⟩
    have K2 : RowB w2 w.heap.size 49 key := K1.out.other (B2.block _ K1.out.lt)
    have b2 : Below w.heap.size w w2 := b1.out.trans (B2.mono s1)
    have s2 := b2.size
    have T12 := T1.out.below B2
    have n2 := hN.out.below b2
    have c2 := run_str n2
    replace K2 := Lib.hid K2
    replace b2 := Lib.hid b2
    replace T2 := Lib.hid T2
    replace T12 := Lib.hid T12
    replace B2 := Lib.hid B2
    replace n2 := Lib.hid n2
    go_wp2_with (first
      | (refine wpList_load_rowg (by rfl) 49 (.tmp 4) rfl w.heap.size rfl 49 (u8s key) (0, 0) _ K2.out Try.underlying49 rfl iK ?_))
    refine (dr.out w2).mono ?_
    rintro e w3 ⟨rfl, B3⟩
    have K3 : RowB w3 w.heap.size 49 key := K2.out.other (B3.block _ K2.out.lt)
    have b3 : Below w.heap.size w w3 := b2.out.trans (B3.mono s2)
    have s3 := b3.size
    replace K3 := Lib.hid K3
    replace b3 := Lib.hid b3
    replace B3 := Lib.hid B3
    clear c2
    go_wp2_with (first
      | (refine wpList_store_n (by rfl) 49 (.tmp 13) (.tmp 44) rfl D rfl rfl iD (by rw [lD']; rfl) ?_; intro w4 R4 B4))
    have b4 : Below w.heap.size w w4.drew := (b3.out.trans (B4.out.mono s3)).drew
    have st4 : StrSt w.heap.size w3.heap.size v9 v11 (.slice an nn cn) key E name D w4.drew :=
      ⟨K3.out.other (B4.out.block _ K3.out.lt), ((T12.out.below B3.out).below B4.out).drew, ((T2.out.below B3.out).below B4.out).drew, hN.out.below b4, R4.out⟩
    have s4 := b4.size
    have A1 : ∀ w', StrSt w.heap.size w3.heap.size v9 v11 (.slice an nn cn) key E name D w' → TextAt w' v9 E := fun w' h => h.one
    have A2 : ∀ w', StrSt w.heap.size w3.heap.size v9 v11 (.slice an nn cn) key E name D w' → TextAt w' v11 E := fun w' h => h.two
    have A3 : ∀ w', StrSt w.heap.size w3.heap.size v9 v11 (.slice an nn cn) key E name D w' → TextAt w' (.slice (some ⟨w3.heap.size, 0, none⟩) 32 32) D := fun w' h => h.der.text sD.out lD.out
    have A4 : ∀ w', StrSt w.heap.size w3.heap.size v9 v11 (.slice an nn cn) key E name D w' → TextAt w' (.slice an nn cn) name := fun w' h => h.name
    replace b4 := Lib.hid b4
    replace st4 := Lib.hid st4
    replace A1 := Lib.hid A1
    replace A2 := Lib.hid A2
    replace A3 := Lib.hid A3
    replace A4 := Lib.hid A4
    clear R4 B4 K0 K1 K2 K3 T1 T2 T12
    refine wp_region_held_drew (S := (fun w' => StrSt w.heap.size w3.heap.size v9 v11 (.slice an nn cn) key E name D w')) (by kernel_rfl) (st4.out) (fun hHeld => ?_)
    refine held_ready (i := 0) rfl (by kernel_rfl) (fun K hK => ?_)
    go_simp
    refine (alive03 _).mono ?_
    rintro e w6 ⟨rfl, B6⟩
    have st6 := st4.out.below B6
    have b6 : Below w.heap.size w w6 := b4.out.trans (B6.mono s4)
    have s6 := b6.size
    replace st6 := Lib.hid st6
    replace b6 := Lib.hid b6
    replace B6 := Lib.hid B6
    refine hK.out _ _ (st6.out) (fun hHeldN => ?_)
    clear hHeld hK K
    have hHeld := hHeldN
    clear hHeldN
    try simp only [Act.put, List.setIfInBounds_toArray, List.set_cons_zero, List.set_cons_succ]
    refine held_take (i := 1) (v := ?_) rfl (by kernel_rfl) (by kernel_rfl) (by kernel_rfl) (fun _ _ _ h => h) (Or.inl ⟨by rfl, ?_⟩) (by assumption) ?_
    rotate_left
    · intro w hSw; (try dsimp only at hSw); go_simp; try with_reducible rfl
    try simp only [Act.put, List.setIfInBounds_toArray, List.set_cons_zero, List.set_cons_succ]
    refine held_take (i := 2) (v := ?_) rfl (by kernel_rfl) (by kernel_rfl) (by kernel_rfl) (fun _ _ _ h => h) (Or.inl ⟨by rfl, ?_⟩) (by assumption) ?_
    rotate_left
    · intro w hSw; (try dsimp only at hSw); go_simp; try with_reducible rfl
    try simp only [Act.put, List.setIfInBounds_toArray, List.set_cons_zero, List.set_cons_succ]
    refine held_take (i := 3) (v := _) rfl (by kernel_rfl) (by kernel_rfl) (by kernel_rfl) (fun _ _ _ h => h) (yieldsIf_str (by rfl) rfl rfl (v := v9) A1.out) (by assumption) ?_
    try simp only [Act.put, List.setIfInBounds_toArray, List.set_cons_zero, List.set_cons_succ]
    refine held_take (i := 4) (v := ?_) rfl (by kernel_rfl) (by kernel_rfl) (by kernel_rfl) (fun _ _ _ h => h) (Or.inl ⟨by rfl, ?_⟩) (by assumption) ?_
    rotate_left
    · intro w hSw; (try dsimp only at hSw); go_simp; try with_reducible rfl
    try simp only [Act.put, List.setIfInBounds_toArray, List.set_cons_zero, List.set_cons_succ]
    refine held_take (i := 5) (v := _) rfl (by kernel_rfl) (by kernel_rfl) (by kernel_rfl) (fun _ _ _ h => h) (yieldsIf_str (by rfl) rfl rfl (v := v11) A2.out) (by assumption) ?_
    try simp only [Act.put, List.setIfInBounds_toArray, List.set_cons_zero, List.set_cons_succ]
    refine held_take (i := 6) (v := ?_) rfl (by kernel_rfl) (by kernel_rfl) (by kernel_rfl) (fun _ _ _ h => h) (Or.inl ⟨by rfl, ?_⟩) (by assumption) ?_
    rotate_left
    · intro w hSw; (try dsimp only at hSw); go_simp; try with_reducible rfl
    try simp only [Act.put, List.setIfInBounds_toArray, List.set_cons_zero, List.set_cons_succ]
    refine held_take (i := 7) (v := ?_) rfl (by kernel_rfl) (by kernel_rfl) (by kernel_rfl) (fun _ _ _ h => h) (Or.inl ⟨by rfl, ?_⟩) (by assumption) ?_
    rotate_left
    · intro w hSw; (try dsimp only at hSw); go_simp; try with_reducible rfl
    try simp only [Act.put, List.setIfInBounds_toArray, List.set_cons_zero, List.set_cons_succ]
    refine held_take (i := 8) (v := ?_) rfl (by kernel_rfl) (by kernel_rfl) (by kernel_rfl) (fun _ _ _ h => h) (Or.inl ⟨by rfl, ?_⟩) (by assumption) ?_
    rotate_left
    · intro w hSw; (try dsimp only at hSw); go_simp; try with_reducible rfl
    try simp only [Act.put, List.setIfInBounds_toArray, List.set_cons_zero, List.set_cons_succ]
    refine held_take (i := 9) (v := ?_) rfl (by kernel_rfl) (by kernel_rfl) (by kernel_rfl) (fun _ _ _ h => h) (Or.inl ⟨by rfl, ?_⟩) (by assumption) ?_
    rotate_left
    · intro w hSw; (try dsimp only at hSw); go_simp; try with_reducible rfl
    try simp only [Act.put, List.setIfInBounds_toArray, List.set_cons_zero, List.set_cons_succ]
    refine held_take (i := 10) (v := ?_) rfl (by kernel_rfl) (by kernel_rfl) (by kernel_rfl) (fun _ _ _ h => h) (Or.inl ⟨by rfl, ?_⟩) (by assumption) ?_
    rotate_left
    · intro w hSw; (try dsimp only at hSw); go_simp; try with_reducible rfl
    try simp only [Act.put, List.setIfInBounds_toArray, List.set_cons_zero, List.set_cons_succ]
    refine held_take (i := 11) (v := ?_) rfl (by kernel_rfl) (by kernel_rfl) (by kernel_rfl) (fun _ _ _ h => h) (Or.inl ⟨by rfl, ?_⟩) (by assumption) ?_
    rotate_left
    · intro w hSw; (try dsimp only at hSw); go_simp; try with_reducible rfl
    try simp only [Act.put, List.setIfInBounds_toArray, List.set_cons_zero, List.set_cons_succ]
    refine held_take (i := 12) (v := ?_) rfl (by kernel_rfl) (by kernel_rfl) (by kernel_rfl) (fun _ _ _ h => h) (Or.inl ⟨by rfl, ?_⟩) (by assumption) ?_
    rotate_left
    · intro w hSw; (try dsimp only at hSw); go_simp; try with_reducible rfl
    try simp only [Act.put, List.setIfInBounds_toArray, List.set_cons_zero, List.set_cons_succ]
    refine held_take (i := 13) (v := ?_) rfl (by kernel_rfl) (by kernel_rfl) (by kernel_rfl) (fun _ _ _ h => h) (Or.inl ⟨by rfl, ?_⟩) (by assumption) ?_
    rotate_left
    · intro w hSw; (try dsimp only at hSw); go_simp; try with_reducible rfl
    try simp only [Act.put, List.setIfInBounds_toArray, List.set_cons_zero, List.set_cons_succ]
    refine held_take (i := 14) (v := ?_) rfl (by kernel_rfl) (by kernel_rfl) (by kernel_rfl) (fun _ _ _ h => h) (Or.inl ⟨by rfl, ?_⟩) (by assumption) ?_
    rotate_left
    · intro w hSw; (try dsimp only at hSw); go_simp; try with_reducible rfl
    try simp only [Act.put, List.setIfInBounds_toArray, List.set_cons_zero, List.set_cons_succ]
    refine held_take (i := 15) (v := _) rfl (by kernel_rfl) (by kernel_rfl) (by kernel_rfl) (fun _ _ _ h => h) (yieldsIf_str (by rfl) rfl rfl (v := .slice (some ⟨w3.heap.size, 0, none⟩) 32 32) A3.out) (by assumption) ?_
    try simp only [Act.put, List.setIfInBounds_toArray, List.set_cons_zero, List.set_cons_succ]
    refine held_take (i := 16) (v := ?_) rfl (by kernel_rfl) (by kernel_rfl) (by kernel_rfl) (fun _ _ _ h => h) (Or.inl ⟨by rfl, ?_⟩) (by assumption) ?_
    rotate_left
    · intro w hSw; (try dsimp only at hSw); go_simp; try with_reducible rfl
    try simp only [Act.put, List.setIfInBounds_toArray, List.set_cons_zero, List.set_cons_succ]
    refine held_take (i := 17) (v := ?_) rfl (by kernel_rfl) (by kernel_rfl) (by kernel_rfl) (fun _ _ _ h => h) (Or.inl ⟨by rfl, ?_⟩) (by assumption) ?_
    rotate_left
    · intro w hSw; (try dsimp only at hSw); go_simp; try with_reducible rfl
    try simp only [Act.put, List.setIfInBounds_toArray, List.set_cons_zero, List.set_cons_succ]
    refine held_take (i := 18) (v := _) rfl (by kernel_rfl) (by kernel_rfl) (by kernel_rfl) (fun _ _ _ h => h) (yieldsIf_str (by rfl) rfl rfl (v := .slice an nn cn) A4.out) (by assumption) ?_
    try simp only [Act.put, List.setIfInBounds_toArray, List.set_cons_zero, List.set_cons_succ]
    refine held_take (i := 19) (v := ?_) rfl (by kernel_rfl) (by kernel_rfl) (by kernel_rfl) (fun _ _ _ h => h) (Or.inl ⟨by rfl, ?_⟩) (by assumption) ?_
    rotate_left
    · intro w hSw; (try dsimp only at hSw); go_simp; try with_reducible rfl
    try simp only [Act.put, List.setIfInBounds_toArray, List.set_cons_zero, List.set_cons_succ]
    refine held_ready (i := 20) rfl (by kernel_rfl) (fun K hK => ?_)
    go_simp
    refine (rd.out w6 _ (st6.out.key.text ks.out kl.out)).mono ?_
    rintro e w7 ⟨v7, rfl, T7, B7⟩
    have st7 := st6.out.below B7
    have b7 : Below w.heap.size w w7 := b6.out.trans (B7.mono s6)
    have c7 := run_str T7
    replace st7 := Lib.hid st7
    replace b7 := Lib.hid b7
    replace B7 := Lib.hid B7
    replace T7 := Lib.hid T7
    refine hK.out _ _ (st7.out) (fun hHeldN => ?_)
    clear hHeld hK K
    have hHeld := hHeldN
    clear hHeldN
    try simp only [Act.put, List.setIfInBounds_toArray, List.set_cons_zero, List.set_cons_succ]
    refine held_ready (i := 21) rfl (by kernel_rfl) (fun K hK => ?_)
    go_simp
    refine hK.out _ _ (st7.out) (fun hHeldN => ?_)
    clear hHeld hK K
    have hHeld := hHeldN
    clear hHeldN
    try simp only [Act.put, List.setIfInBounds_toArray, List.set_cons_zero, List.set_cons_succ]
    refine held_take (i := 22) (v := ?_) rfl (by kernel_rfl) (by kernel_rfl) (by kernel_rfl) (fun _ _ _ h => h) (Or.inl ⟨by rfl, ?_⟩) (by assumption) ?_
    rotate_left
    · intro w hSw; (try dsimp only at hSw); go_simp; try with_reducible rfl
    try simp only [Act.put, List.setIfInBounds_toArray, List.set_cons_zero, List.set_cons_succ]
    refine held_take (i := 23) (v := ?_) rfl (by kernel_rfl) (by kernel_rfl) (by kernel_rfl) (fun _ _ _ h => h) (Or.inl ⟨by rfl, ?_⟩) (by assumption) ?_
    rotate_left
    · intro w hSw; (try dsimp only at hSw); go_simp; try with_reducible rfl
    try simp only [Act.put, List.setIfInBounds_toArray, List.set_cons_zero, List.set_cons_succ]
    refine held_take (i := 24) (v := ?_) rfl (by kernel_rfl) (by kernel_rfl) (by kernel_rfl) (fun _ _ _ h => h) (Or.inl ⟨by rfl, ?_⟩) (by assumption) ?_
    rotate_left
    · intro w hSw; (try dsimp only at hSw); go_simp; try with_reducible rfl
    try simp only [Act.put, List.setIfInBounds_toArray, List.set_cons_zero, List.set_cons_succ]
    refine wpAnyH_done (by kernel_rfl) ?_ _
    clear hHeld
    go_wp2_with fail
    go_ret
    exact ⟨rfl, b7.out⟩
  ·
    go_enter Try.func11, Try.ntmps11
    go_wp2_with (first
      | (refine wpList_load_rowg (by rfl) 49 (.tmp 4) rfl w.heap.size rfl 49 (u8s key) (0, 0) _ (heap_alloc_new _ _) Try.underlying49 rfl iK ?_))
    refine name_calls ?_; intro w0 hw0
    have K0 : RowB w0 w.heap.size 49 key := by rw [hw0.out]; exact heap_alloc_new _ _
    have b0 : Below w.heap.size w w0 := by rw [hw0.out]; exact (Below.refl _ _).alloc (Nat.le_refl _) _
    have s0 := b0.size
    replace K0 := Lib.hid K0
    replace b0 := Lib.hid b0
    clear hw0
    refine (ex.out w0 (hN.out.below b0.out)).mono ?_
    rintro e w1 ⟨v9, rfl, T1, B1⟩
    have K1 : RowB w1 w.heap.size 49 key := K0.out.other (B1.block _ K0.out.lt)
    have b1 : Below w.heap.size w w1 := b0.out.trans (B1.mono s0)
    have s1 := b1.size
    replace K1 := Lib.hid K1
    replace b1 := Lib.hid b1
    replace T1 := Lib.hid T1
    replace B1 := Lib.hid B1
    go_wp2_with fail
    refine (rx.out w1 _ (K1.out.text ks.out kl.out) (hN.out.below b1.out)).mono ?_
    rintro e w2 ⟨v11, rfl, T2, B2⟩
    have K2 : RowB w2 w.heap.size 49 key := K1.out.other (B2.block _ K1.out.lt)
    have b2 : Below w.heap.size w w2 := b1.out.trans (B2.mono s1)
    have s2 := b2.size
    have T12 := T1.out.below B2
    have n2 := hN.out.below b2
    have c2 := run_str n2
    replace K2 := Lib.hid K2
    replace b2 := Lib.hid b2
    replace T2 := Lib.hid T2
    replace T12 := Lib.hid T12
    replace B2 := Lib.hid B2
    replace n2 := Lib.hid n2
    go_wp2_with (first
      | (refine wpList_load_rowg (by rfl) 49 (.tmp 4) rfl w.heap.size rfl 49 (u8s key) (0, 0) _ K2.out Try.underlying49 rfl iK ?_))
    refine (dr.out w2).mono ?_
    rintro e w3 ⟨rfl, B3⟩
    have K3 : RowB w3 w.heap.size 49 key := K2.out.other (B3.block _ K2.out.lt)
    have b3 : Below w.heap.size w w3 := b2.out.trans (B3.mono s2)
    have s3 := b3.size
    replace K3 := Lib.hid K3
    replace b3 := Lib.hid b3
    replace B3 := Lib.hid B3
    clear c2
    go_wp2_with (first
      | (refine wpList_store_n (by rfl) 49 (.tmp 13) (.tmp 44) rfl D rfl rfl iD (by rw [lD']; rfl) ?_; intro w4 R4 B4))
    have b4 : Below w.heap.size w w4.drew := (b3.out.trans (B4.out.mono s3)).drew
    have st4 : StrSt w.heap.size w3.heap.size v9 v11 (.slice an nn cn) key E name D w4.drew :=
      ⟨K3.out.other (B4.out.block _ K3.out.lt), ((T12.out.below B3.out).below B4.out).drew, ((T2.out.below B3.out).below B4.out).drew, hN.out.below b4, R4.out⟩
    have s4 := b4.size
    have A1 : ∀ w', StrSt w.heap.size w3.heap.size v9 v11 (.slice an nn cn) key E name D w' → TextAt w' v9 E := fun w' h => h.one
    have A2 : ∀ w', StrSt w.heap.size w3.heap.size v9 v11 (.slice an nn cn) key E name D w' → TextAt w' v11 E := fun w' h => h.two
    have A3 : ∀ w', StrSt w.heap.size w3.heap.size v9 v11 (.slice an nn cn) key E name D w' → TextAt w' (.slice (some ⟨w3.heap.size, 0, none⟩) 32 32) D := fun w' h => h.der.text sD.out lD.out
    have A4 : ∀ w', StrSt w.heap.size w3.heap.size v9 v11 (.slice an nn cn) key E name D w' → TextAt w' (.slice an nn cn) name := fun w' h => h.name
    replace b4 := Lib.hid b4
    replace st4 := Lib.hid st4
    replace A1 := Lib.hid A1
    replace A2 := Lib.hid A2
    replace A3 := Lib.hid A3
    replace A4 := Lib.hid A4
    clear R4 B4 K0 K1 K2 K3 T1 T2 T12
    refine wp_region_held_drew (S := (fun w' => StrSt w.heap.size w3.heap.size v9 v11 (.slice an nn cn) key E name D w')) (by kernel_rfl) (st4.out) (fun hHeld => ?_)
    refine held_ready (i := 0) rfl (by kernel_rfl) (fun K hK => ?_)
    go_simp
    refine (alive03 _).mono ?_
    rintro e w6 ⟨rfl, B6⟩
    have st6 := st4.out.below B6
    have b6 : Below w.heap.size w w6 := b4.out.trans (B6.mono s4)
    have s6 := b6.size
    replace st6 := Lib.hid st6
    replace b6 := Lib.hid b6
    replace B6 := Lib.hid B6
    refine hK.out _ _ (st6.out) (fun hHeldN => ?_)
    clear hHeld hK K
    have hHeld := hHeldN
    clear hHeldN
    try simp only [Act.put, List.setIfInBounds_toArray, List.set_cons_zero, List.set_cons_succ]
    refine held_take (i := 1) (v := ?_) rfl (by kernel_rfl) (by kernel_rfl) (by kernel_rfl) (fun _ _ _ h => h) (Or.inl ⟨by rfl, ?_⟩) (by assumption) ?_
    rotate_left
    · intro w hSw; (try dsimp only at hSw); go_simp; try with_reducible rfl
    try simp only [Act.put, List.setIfInBounds_toArray, List.set_cons_zero, List.set_cons_succ]
    refine held_take (i := 2) (v := ?_) rfl (by kernel_rfl) (by kernel_rfl) (by kernel_rfl) (fun _ _ _ h => h) (Or.inl ⟨by rfl, ?_⟩) (by assumption) ?_
    rotate_left
    · intro w hSw; (try dsimp only at hSw); go_simp; try with_reducible rfl
    try simp only [Act.put, List.setIfInBounds_toArray, List.set_cons_zero, List.set_cons_succ]
    refine held_take (i := 3) (v := _) rfl (by kernel_rfl) (by kernel_rfl) (by kernel_rfl) (fun _ _ _ h => h) (yieldsIf_str (by rfl) rfl rfl (v := v9) A1.out) (by assumption) ?_
    try simp only [Act.put, List.setIfInBounds_toArray, List.set_cons_zero, List.set_cons_succ]
    refine held_take (i := 4) (v := ?_) rfl (by kernel_rfl) (by kernel_rfl) (by kernel_rfl) (fun _ _ _ h => h) (Or.inl ⟨by rfl, ?_⟩) (by assumption) ?_
    rotate_left
    · intro w hSw; (try dsimp only at hSw); go_simp; try with_reducible rfl
    try simp only [Act.put, List.setIfInBounds_toArray, List.set_cons_zero, List.set_cons_succ]
    refine held_take (i := 5) (v := _) rfl (by kernel_rfl) (by kernel_rfl) (by kernel_rfl) (fun _ _ _ h => h) (yieldsIf_str (by rfl) rfl rfl (v := v11) A2.out) (by assumption) ?_
    try simp only [Act.put, List.setIfInBounds_toArray, List.set_cons_zero, List.set_cons_succ]
    refine held_take (i := 6) (v := ?_) rfl (by kernel_rfl) (by kernel_rfl) (by kernel_rfl) (fun _ _ _ h => h) (Or.inl ⟨by rfl, ?_⟩) (by assumption) ?_
    rotate_left
    · intro w hSw; (try dsimp only at hSw); go_simp; try with_reducible rfl
    try simp only [Act.put, List.setIfInBounds_toArray, List.set_cons_zero, List.set_cons_succ]
    refine held_take (i := 7) (v := ?_) rfl (by kernel_rfl) (by kernel_rfl) (by kernel_rfl) (fun _ _ _ h => h) (Or.inl ⟨by rfl, ?_⟩) (by assumption) ?_
    rotate_left
    · intro w hSw; (try dsimp only at hSw); go_simp; try with_reducible rfl
    try simp only [Act.put, List.setIfInBounds_toArray, List.set_cons_zero, List.set_cons_succ]
    refine held_take (i := 8) (v := ?_) rfl (by kernel_rfl) (by kernel_rfl) (by kernel_rfl) (fun _ _ _ h => h) (Or.inl ⟨by rfl, ?_⟩) (by assumption) ?_
    rotate_left
    · intro w hSw; (try dsimp only at hSw); go_simp; try with_reducible rfl
    try simp only [Act.put, List.setIfInBounds_toArray, List.set_cons_zero, List.set_cons_succ]
    refine held_take (i := 9) (v := ?_) rfl (by kernel_rfl) (by kernel_rfl) (by kernel_rfl) (fun _ _ _ h => h) (Or.inl ⟨by rfl, ?_⟩) (by assumption) ?_
    rotate_left
    · intro w hSw; (try dsimp only at hSw); go_simp; try with_reducible rfl
    try simp only [Act.put, List.setIfInBounds_toArray, List.set_cons_zero, List.set_cons_succ]
    refine held_take (i := 10) (v := ?_) rfl (by kernel_rfl) (by kernel_rfl) (by kernel_rfl) (fun _ _ _ h => h) (Or.inl ⟨by rfl, ?_⟩) (by assumption) ?_
    rotate_left
    · intro w hSw; (try dsimp only at hSw); go_simp; try with_reducible rfl
    try simp only [Act.put, List.setIfInBounds_toArray, List.set_cons_zero, List.set_cons_succ]
    refine held_take (i := 11) (v := ?_) rfl (by kernel_rfl) (by kernel_rfl) (by kernel_rfl) (fun _ _ _ h => h) (Or.inl ⟨by rfl, ?_⟩) (by assumption) ?_
    rotate_left
    · intro w hSw; (try dsimp only at hSw); go_simp; try with_reducible rfl
    try simp only [Act.put, List.setIfInBounds_toArray, List.set_cons_zero, List.set_cons_succ]
    refine held_take (i := 12) (v := ?_) rfl (by kernel_rfl) (by kernel_rfl) (by kernel_rfl) (fun _ _ _ h => h) (Or.inl ⟨by rfl, ?_⟩) (by assumption) ?_
    rotate_left
    · intro w hSw; (try dsimp only at hSw); go_simp; try with_reducible rfl
    try simp only [Act.put, List.setIfInBounds_toArray, List.set_cons_zero, List.set_cons_succ]
    refine held_take (i := 13) (v := ?_) rfl (by kernel_rfl) (by kernel_rfl) (by kernel_rfl) (fun _ _ _ h => h) (Or.inl ⟨by rfl, ?_⟩) (by assumption) ?_
    rotate_left
    · intro w hSw; (try dsimp only at hSw); go_simp; try with_reducible rfl
    try simp only [Act.put, List.setIfInBounds_toArray, List.set_cons_zero, List.set_cons_succ]
    refine held_take (i := 14) (v := ?_) rfl (by kernel_rfl) (by kernel_rfl) (by kernel_rfl) (fun _ _ _ h => h) (Or.inl ⟨by rfl, ?_⟩) (by assumption) ?_
    rotate_left
    · intro w hSw; (try dsimp only at hSw); go_simp; try with_reducible rfl
    try simp only [Act.put, List.setIfInBounds_toArray, List.set_cons_zero, List.set_cons_succ]
    refine held_take (i := 15) (v := _) rfl (by kernel_rfl) (by kernel_rfl) (by kernel_rfl) (fun _ _ _ h => h) (yieldsIf_str (by rfl) rfl rfl (v := .slice (some ⟨w3.heap.size, 0, none⟩) 32 32) A3.out) (by assumption) ?_
    try simp only [Act.put, List.setIfInBounds_toArray, List.set_cons_zero, List.set_cons_succ]
    refine held_take (i := 16) (v := ?_) rfl (by kernel_rfl) (by kernel_rfl) (by kernel_rfl) (fun _ _ _ h => h) (Or.inl ⟨by rfl, ?_⟩) (by assumption) ?_
    rotate_left
    · intro w hSw; (try dsimp only at hSw); go_simp; try with_reducible rfl
    try simp only [Act.put, List.setIfInBounds_toArray, List.set_cons_zero, List.set_cons_succ]
    refine held_take (i := 17) (v := ?_) rfl (by kernel_rfl) (by kernel_rfl) (by kernel_rfl) (fun _ _ _ h => h) (Or.inl ⟨by rfl, ?_⟩) (by assumption) ?_
    rotate_left
    · intro w hSw; (try dsimp only at hSw); go_simp; try with_reducible rfl
    try simp only [Act.put, List.setIfInBounds_toArray, List.set_cons_zero, List.set_cons_succ]
    refine held_take (i := 18) (v := _) rfl (by kernel_rfl) (by kernel_rfl) (by kernel_rfl) (fun _ _ _ h => h) (yieldsIf_str (by rfl) rfl rfl (v := .slice an nn cn) A4.out) (by assumption) ?_
    try simp only [Act.put, List.setIfInBounds_toArray, List.set_cons_zero, List.set_cons_succ]
    refine held_take (i := 19) (v := ?_) rfl (by kernel_rfl) (by kernel_rfl) (by kernel_rfl) (fun _ _ _ h => h) (Or.inl ⟨by rfl, ?_⟩) (by assumption) ?_
    rotate_left
    · intro w hSw; (try dsimp only at hSw); go_simp; try with_reducible rfl
    try simp only [Act.put, List.setIfInBounds_toArray, List.set_cons_zero, List.set_cons_succ]
    refine held_ready (i := 20) rfl (by kernel_rfl) (fun K hK => ?_)
    go_simp
    refine (rd.out w6 _ (st6.out.key.text ks.out kl.out)).mono ?_
    rintro e w7 ⟨v7, rfl, T7, B7⟩
    have st7 := st6.out.below B7
    have b7 : Below w.heap.size w w7 := b6.out.trans (B7.mono s6)
    have c7 := run_str T7
    replace st7 := Lib.hid st7
    replace b7 := Lib.hid b7
    replace B7 := Lib.hid B7
    replace T7 := Lib.hid T7
    refine hK.out _ _ (st7.out) (fun hHeldN => ?_)
    clear hHeld hK K
    have hHeld := hHeldN
    clear hHeldN
    try simp only [Act.put, List.setIfInBounds_toArray, List.set_cons_zero, List.set_cons_succ]
    refine held_ready (i := 21) rfl (by kernel_rfl) (fun K hK => ?_)
    go_simp
    refine hK.out _ _ (st7.out) (fun hHeldN => ?_)
    clear hHeld hK K
    have hHeld := hHeldN
    clear hHeldN
    try simp only [Act.put, List.setIfInBounds_toArray, List.set_cons_zero, List.set_cons_succ]
    refine held_take (i := 22) (v := ?_) rfl (by kernel_rfl) (by kernel_rfl) (by kernel_rfl) (fun _ _ _ h => h) (Or.inl ⟨by rfl, ?_⟩) (by assumption) ?_
    rotate_left
    · intro w hSw; (try dsimp only at hSw); go_simp; try with_reducible rfl
    try simp only [Act.put, List.setIfInBounds_toArray, List.set_cons_zero, List.set_cons_succ]
    refine held_take (i := 23) (v := ?_) rfl (by kernel_rfl) (by kernel_rfl) (by kernel_rfl) (fun _ _ _ h => h) (Or.inl ⟨by rfl, ?_⟩) (by assumption) ?_
    rotate_left
    · intro w hSw; (try dsimp only at hSw); go_simp; try with_reducible rfl
    try simp only [Act.put, List.setIfInBounds_toArray, List.set_cons_zero, List.set_cons_succ]
    refine held_take (i := 24) (v := ?_) rfl (by kernel_rfl) (by kernel_rfl) (by kernel_rfl) (fun _ _ _ h => h) (Or.inl ⟨by rfl, ?_⟩) (by assumption) ?_
    rotate_left
    · intro w hSw; (try dsimp only at hSw); go_simp; try with_reducible rfl
    try simp only [Act.put, List.setIfInBounds_toArray, List.set_cons_zero, List.set_cons_succ]
    refine wpAnyH_done (by kernel_rfl) ?_ _
    clear hHeld
    go_wp2_with fail
    go_ret
    exact ⟨rfl, b7.out⟩

end Go.Proofs.Ytjbmdeppoobccaa
