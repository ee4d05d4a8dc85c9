/-
  The reference of layer 3: Mac, Stream, Expand, Derive. Conditions: texts not too long.
-/
import Derived.Test.YtjbmdeppoobccaaHmacDerive
import Derived.Test.YtjbmdeppoobccaaRefSumS
namespace Go.Proofs.Ytjbmdeppoobccaa
open Go.RowKit

theorem padBy_take (b : Nat) (K : List Nat) {k : Nat} (hk : k < 64) : (padBy b K).take (k + 1) = (padBy b K).take k ++ [byt K k ^^^ b] := by
  rw [List.take_add_one]
  congr 1
  simp [padBy, hk]
theorem byt_beyond {K : List Nat} {k : Nat} (h : K.length ≤ k) : byt K k = 0 := by
  unfold byt
  rw [List.getD, List.getElem?_eq_none h]
  rfl
/-- Two rows that the call owns are not one. -/
def Apart (u v : Value) : Prop := ∀ g, u.ownBlock = some g → v.ownBlock ≠ some g
theorem Own.keep {w w' : World} {base : Nat} {e : TypeId} {u v : Value} {xs : List Value} (h : Own w base e v xs) (hg : w.grownBy w' u.ownBlock) (ha : Apart u v) : Own w' base e v xs :=
  h.other fun k hk => hg.block k (h.lt k hk).2 fun e => ha k e.symm hk
theorem Apart.symm {u v : Value} (h : Apart u v) : Apart v u := fun g h1 h2 => h g h2 h1
theorem Apart.grow {w : World} {base : Nat} {e : TypeId} {u u' v : Value} {xs : List Value} (h : Apart u v) (hv : Own w base e v xs) (hu : u'.ownBlock = u.ownBlock ∨ u'.ownBlock = some w.heap.size) : Apart u' v := fun g h1 h2 => by
  rcases hu with hu | hu
  · rw [hu] at h1; exact h g h1 h2
  · rw [hu] at h1
    cases h1
    have := (hv.lt _ h2).2
    omega

set_option maxRecDepth 100000 in
set_option maxHeartbeats 4000000 in
theorem ref_mac (w : World) (vk vt : Value) (key t : List Nat) (hk : TextAt w vk key) (ht : TextAt w vt t) (h1 : key.length < 900000) (h2 : t.length < 900000) :
    Calls Try.prog 30 #[vk, vt] w fun e w' => ∃ v', e = .returned v' ∧ Own w' w.heap.size 5 v' (u8l (macs key t)) ∧ Below w.heap.size w w' := by
  have ksm := hk.small
  have tsm := ht.small
  have sk := Lib.hid (ref_sum w vk key hk (by omega))
  obtain ⟨ak, ck, rfl, p1, p2, p3⟩ := hk.ex
  obtain ⟨at_, ct, rfl, q1, q2, q3⟩ := ht.ex
  obtain ⟨n, hn⟩ : ∃ n, n = key.length := ⟨_, rfl⟩
  obtain ⟨m, hm⟩ : ∃ m, m = t.length := ⟨_, rfl⟩
  rw [← hn] at hk h1 p1 p3 sk ⊢
  rw [← hm] at ht h2 q1 q3 ⊢
  have mac_eq : sumOf (padBy 92 (hkey key) ++ sumOf (padBy 54 (hkey key) ++ t)) = macs key t := rfl
  have hkl := hkey_le key
  have hks := hkey_small ksm
  generalize hKK : hkey key = KK at *
  replace hk := Lib.hid hk
  replace ht := Lib.hid ht
  replace hn := Lib.hid hn
  replace hm := Lib.hid hm
  replace p2 := Lib.hid p2
  replace p3 := Lib.hid p3
  replace q2 := Lib.hid q2
  replace q3 := Lib.hid q3
  replace ksm := Lib.hid ksm
  replace tsm := Lib.hid tsm
  replace mac_eq := Lib.hid mac_eq
  replace hks := Lib.hid hks
  replace hKK := Lib.hid hKK
  have d64 : (64 : Int) < (n : Int) ∨ ¬ (64 : Int) < (n : Int) := by omega
  rcases d64 with d64 | d64
  · have ek : KK = sumOf key := by rw [← hKK.out]; unfold hkey; rw [if_pos (by rw [← hn.out]; omega)]
    go_enter Try.func30, Try.ntmps30
    go_wp2_with fail
    refine sk.out.mono ?_
    rintro e wx ⟨vx, rfl, Ox, Bx⟩
    have Tx := Ox.text (sumOf_lt key)
    rw [← ek] at Tx
    have Ty := ht.out.below Bx
    obtain ⟨ax, cx, ex⟩ := Tx.form
    obtain ⟨nk, enk⟩ : ∃ nk, nk = KK.length := ⟨_, rfl⟩
    rw [← enk] at ex
    subst ex
    have enk := enk.symm
    replace ek := Lib.hid ek
    replace Ox := Lib.hid Ox
    replace Bx := Lib.hid Bx
    replace Tx := Lib.hid Tx
    replace Ty := Lib.hid Ty
    replace enk := Lib.hid enk
    go_wp2_with fail
    obtain ⟨wo, rfl⟩ : ∃ wo : World, wo = wx := ⟨_, rfl⟩
    have swo := Bx.out.size
    have g3x := Tx.out.ex
    replace g3x := Lib.hid g3x
    go_loopw [5, 6, 7] (fun vi vo i wr => ∃ k : Nat, k ≤ 64 ∧ i = .int .i64 k ∧ Own wr wo.heap.size 5 vi (u8l ((padBy 54 KK).take k)) ∧ Own wr wo.heap.size 5 vo (u8l ((padBy 92 KK).take k)) ∧ Apart vi vo ∧ Below wo.heap.size wo wr) (fun _ _ i _ => 64 - (intOf i).toNat)
    case atStart => exact ⟨0, Nat.zero_le _, rfl, Own.nil _ _ _, Own.nil _ _ _, fun g hg => by simp [Value.ownBlock] at hg, Below.refl _ _⟩
    case round =>
      obtain ⟨k, hk', rfl, hI, hO, hA, hB⟩ := hrel
      by_cases hlt : k < 64
      · have e54 := padBy_take 54 KK hlt
        have e92 := padBy_take 92 KK hlt
        have li : (u8l ((padBy 54 KK).take k)).length + 1 ≤ 1000000000 := by simp [u8l]; omega
        have lo : (u8l ((padBy 92 KK).take k)).length + 1 ≤ 1000000000 := by simp [u8l]; omega
        have hsb := hB.size
        have hc : ((k : Int) < (nk : Int) ∧ ∃ ob oo, ax = some ⟨ob, oo, none⟩ ∧ wr.cell? ⟨ob, oo + k, none⟩ = some (.int .u8 (byt KK k : Nat))) ∨ (¬ ((k : Int) < (nk : Int)) ∧ byt KK k = 0) := by
          by_cases hkn : k < nk
          · obtain ⟨ao', cap', e, _, _, h3⟩ := g3x.out
            cases e
            obtain ⟨_, ob, oo, e, hc⟩ := h3 k (by rw [enk.out]; exact hkn)
            exact .inl ⟨by omega, ob, oo, e, (hB.cell (block_lt_of_cell hc)).trans hc⟩
          · exact .inr ⟨by omega, byt_beyond (by rw [enk.out]; omega)⟩
        have hb8 : byt KK k < 256 := byt_lt hks.out k
        generalize byt KK k = c at *
        have x1 := u8_xor_nat c 54 hb8 (by decide)
        have x2 := u8_xor_nat c 92 hb8 (by decide)
        rw [show ((54 : Nat) : Int) = 54 from rfl] at x1
        rw [show ((92 : Nat) : Int) = 92 from rfl] at x2
        have y1 : c ^^^ 54 < 256 := Nat.xor_lt_two_pow (n := 8) hb8 (by decide)
        have y2 : c ^^^ 92 < 256 := Nat.xor_lt_two_pow (n := 8) hb8 (by decide)
        generalize c ^^^ 54 = d1 at *
        generalize c ^^^ 92 = d2 at *
        replace hI := Lib.hid hI
        replace hO := Lib.hid hO
        replace hA := Lib.hid hA
        replace hB := Lib.hid hB
        replace e54 := Lib.hid e54
        replace e92 := Lib.hid e92
        replace li := Lib.hid li
        replace lo := Lib.hid lo
        replace y1 := Lib.hid y1
        replace y2 := Lib.hid y2
        rcases hc with ⟨hc1, ob, oo, rfl, hc2⟩ | ⟨hc1, hc2⟩
        case' inr =>
          subst hc2
          rw [show ((0 : Nat) : Int) = 0 from rfl] at x1 x2
        all_goals
          go_wp2_with (first
            | (at_builtin; refine wpList_append_x rfl (.tmp 26) (.tmp 29) 22 rfl 5 Try.underlying22 (.int .u8 0) 1 infoU8 rfl (by decide) wo.heap.size wo u5 _ rfl (hI.out.alloc _) (hB.out.alloc hsb _) (by simp; omega) (some ⟨wr.heap.size, 0, none⟩) 1 1 [.int .u8 (d1 : Int)] rfl rfl (fun e => by simp at e) one_cell (by simp [Value.oneCell']) li.out ?_; intro v1 w1 O1 B1 G1 b1
               have O1' : Own w1 wo.heap.size 5 u6 (u8l ((padBy 92 KK).take k)) := (hO.out.alloc _).keep G1.out hA.out
               have A1 : Apart v1 u6 := hA.out.grow (hO.out.alloc _) b1.out
               have s1 := B1.out.size
               replace O1' := Lib.hid O1'
               replace A1 := Lib.hid A1)
            | (at_builtin; refine wpList_append_x rfl (.tmp 31) (.tmp 34) 22 rfl 5 Try.underlying22 (.int .u8 0) 1 infoU8 rfl (by decide) wo.heap.size wo u6 _ rfl (O1'.out.alloc _) (B1.out.alloc s1 _) (by simp; omega) (some ⟨w1.heap.size, 0, none⟩) 1 1 [.int .u8 (d2 : Int)] rfl rfl (fun e => by simp at e) one_cell (by simp [Value.oneCell']) lo.out ?_; intro v2 w2 O2 B2 G2 b2))
          have O3 : Own w2 wo.heap.size 5 v1 (u8l ((padBy 54 KK).take k) ++ [.int .u8 (d1 : Int)]) := (O1.out.alloc _).keep G2.out A1.out.symm
          have A2 : Apart v1 v2 := (A1.out.symm.grow (O1.out.alloc _) b2.out).symm
          replace O3 := Lib.hid O3
          replace A2 := Lib.hid A2
          go_roundw
          case rel => exact ⟨k + 1, by omega, by go_num, by rw [e54.out, u8l_append]; exact O3.out, by rw [e92.out, u8l_append]; exact O2.out, A2.out, B2.out⟩
          case measure => simp [intOf]; omega
      · obtain rfl : k = 64 := by omega
        simp only [show ((64 : Nat) : Int) = 64 from rfl]
        rw [List.take_of_length_le (by simp)] at hI hO
        have hT := Ty.out.below (hB.mono (Nat.le_refl _))
        have hsb := hB.size
        have psm : ∀ x ∈ padBy 54 KK ++ t, x < 256 := fun x hx => by
          rcases List.mem_append.1 hx with hx | hx
          · exact padBy_small (by decide) hks.out x hx
          · exact tsm.out x hx
        have ple : (padBy 54 KK ++ t).length ≤ 1000000 := by rw [List.length_append, length_padBy, ← hm.out]; omega
        replace hI := Lib.hid hI
        replace hO := Lib.hid hO
        replace hA := Lib.hid hA
        replace hB := Lib.hid hB
        replace hT := Lib.hid hT
        replace psm := Lib.hid psm
        replace ple := Lib.hid ple
        go_wp2_with (first
          | (at_builtin; refine wpList_append_t (by rfl) (.tmp 37) (.tmp 38) rfl wo.heap.size wo u5 (padBy 54 KK) rfl hI.out hB.out hsb (.slice at_ m ct) t rfl hT.out (by rw [length_padBy, ← hm.out]; omega) ?_; intro v1 w1 O1 B1 G1 b1))
        have O1' : Own w1 wo.heap.size 5 u6 (u8l (padBy 92 KK)) := hO.out.keep G1.out hA.out
        have s1 := B1.out.size
        have T1 := O1.out.text psm.out
        have rs := ref_sum w1 v1 _ T1 ple.out
        replace O1' := Lib.hid O1'
        replace T1 := Lib.hid T1
        replace rs := Lib.hid rs
        refine rs.out.mono ?_
        rintro e w2 ⟨v2, rfl, O2, B2⟩
        have O2' := O1'.out.below B2
        have B2' : Below wo.heap.size wo w2 := B1.out.trans (B2.mono s1)
        have s2 := B2'.size
        have ism := sumOf_lt (padBy 54 KK ++ t)
        have ile := length_sumOf (padBy 54 KK ++ t)
        have T2 := O2.text ism
        replace O2 := Lib.hid O2
        replace O2' := Lib.hid O2'
        replace B2' := Lib.hid B2'
        replace B2 := Lib.hid B2
        replace ism := Lib.hid ism
        replace ile := Lib.hid ile
        replace T2 := Lib.hid T2
        clear rs
        obtain ⟨I, hI2⟩ : ∃ I, I = sumOf (padBy 54 KK ++ t) := ⟨_, rfl⟩
        rw [← hI2] at T2 ism ile mac_eq
        have psm2 : ∀ x ∈ padBy 92 KK ++ I, x < 256 := fun x hx => by
          rcases List.mem_append.1 hx with hx | hx
          · exact padBy_small (by decide) hks.out x hx
          · exact ism.out x hx
        replace hI2 := Lib.hid hI2
        replace psm2 := Lib.hid psm2
        go_wp2_with (first
          | (at_builtin; refine wpList_append_s (by rfl) (.tmp 36) (.tmp 40) rfl wo.heap.size wo u6 (padBy 92 KK) rfl O2'.out B2'.out s2 v2 I rfl T2.out (by rw [length_padBy, ile.out]; omega) ?_; intro v3 w3 O3 B3))
        have s3 := B3.out.size
        have T3 := O3.out.text psm2.out
        have rs := ref_sum w3 v3 _ T3 (by rw [List.length_append, length_padBy, ile.out]; omega)
        rw [mac_eq.out] at rs
        replace T3 := Lib.hid T3
        replace rs := Lib.hid rs
        refine rs.out.mono ?_
        rintro e w4 ⟨v4, rfl, O4, B4⟩
        replace O4 := Lib.hid O4
        replace B4 := Lib.hid B4
        go_wp2_with fail
        go_ret
        exact ⟨v4, rfl, O4.out.weaken (by omega), (Bx.out.trans (B3.out.mono swo)).trans (B4.out.mono (by omega))⟩
  · have ek : KK = key := by rw [← hKK.out]; unfold hkey; rw [if_neg (by rw [← hn.out]; omega)]
    obtain ⟨wx, rfl⟩ : ∃ wx, wx = w := ⟨_, rfl⟩
    have Bx : Below wx.heap.size wx wx := Below.refl _ _
    have Tx : TextAt wx (.slice ak n ck) KK := by rw [ek]; exact hk.out
    have Ty := ht.out
    obtain ⟨ax, rfl⟩ : ∃ ax, ax = ak := ⟨_, rfl⟩
    obtain ⟨nk, rfl⟩ : ∃ nk, nk = n := ⟨_, rfl⟩
    have enk : KK.length = nk := by rw [ek, ← hn.out]
    replace ek := Lib.hid ek
    replace Bx := Lib.hid Bx
    replace Tx := Lib.hid Tx
    replace Ty := Lib.hid Ty
    replace enk := Lib.hid enk
    go_enter Try.func30, Try.ntmps30
    go_wp2_with fail
    obtain ⟨wo, rfl⟩ : ∃ wo : World, wo = wx := ⟨_, rfl⟩
    have swo := Bx.out.size
    have g3x := Tx.out.ex
    replace g3x := Lib.hid g3x
    go_loopw [5, 6, 7] (fun vi vo i wr => ∃ k : Nat, k ≤ 64 ∧ i = .int .i64 k ∧ Own wr wo.heap.size 5 vi (u8l ((padBy 54 KK).take k)) ∧ Own wr wo.heap.size 5 vo (u8l ((padBy 92 KK).take k)) ∧ Apart vi vo ∧ Below wo.heap.size wo wr) (fun _ _ i _ => 64 - (intOf i).toNat)
    case atStart => exact ⟨0, Nat.zero_le _, rfl, Own.nil _ _ _, Own.nil _ _ _, fun g hg => by simp [Value.ownBlock] at hg, Below.refl _ _⟩
    case round =>
      obtain ⟨k, hk', rfl, hI, hO, hA, hB⟩ := hrel
      by_cases hlt : k < 64
      · have e54 := padBy_take 54 KK hlt
        have e92 := padBy_take 92 KK hlt
        have li : (u8l ((padBy 54 KK).take k)).length + 1 ≤ 1000000000 := by simp [u8l]; omega
        have lo : (u8l ((padBy 92 KK).take k)).length + 1 ≤ 1000000000 := by simp [u8l]; omega
        have hsb := hB.size
        have hc : ((k : Int) < (nk : Int) ∧ ∃ ob oo, ax = some ⟨ob, oo, none⟩ ∧ wr.cell? ⟨ob, oo + k, none⟩ = some (.int .u8 (byt KK k : Nat))) ∨ (¬ ((k : Int) < (nk : Int)) ∧ byt KK k = 0) := by
          by_cases hkn : k < nk
          · obtain ⟨ao', cap', e, _, _, h3⟩ := g3x.out
            cases e
            obtain ⟨_, ob, oo, e, hc⟩ := h3 k (by rw [enk.out]; exact hkn)
            exact .inl ⟨by omega, ob, oo, e, (hB.cell (block_lt_of_cell hc)).trans hc⟩
          · exact .inr ⟨by omega, byt_beyond (by rw [enk.out]; omega)⟩
        have hb8 : byt KK k < 256 := byt_lt hks.out k
        generalize byt KK k = c at *
        have x1 := u8_xor_nat c 54 hb8 (by decide)
        have x2 := u8_xor_nat c 92 hb8 (by decide)
        rw [show ((54 : Nat) : Int) = 54 from rfl] at x1
        rw [show ((92 : Nat) : Int) = 92 from rfl] at x2
        have y1 : c ^^^ 54 < 256 := Nat.xor_lt_two_pow (n := 8) hb8 (by decide)
        have y2 : c ^^^ 92 < 256 := Nat.xor_lt_two_pow (n := 8) hb8 (by decide)
        generalize c ^^^ 54 = d1 at *
        generalize c ^^^ 92 = d2 at *
        replace hI := Lib.hid hI
        replace hO := Lib.hid hO
        replace hA := Lib.hid hA
        replace hB := Lib.hid hB
        replace e54 := Lib.hid e54
        replace e92 := Lib.hid e92
        replace li := Lib.hid li
        replace lo := Lib.hid lo
        replace y1 := Lib.hid y1
        replace y2 := Lib.hid y2
        rcases hc with ⟨hc1, ob, oo, rfl, hc2⟩ | ⟨hc1, hc2⟩
        case' inr =>
          subst hc2
          rw [show ((0 : Nat) : Int) = 0 from rfl] at x1 x2
        all_goals
          go_wp2_with (first
            | (at_builtin; refine wpList_append_x rfl (.tmp 26) (.tmp 29) 22 rfl 5 Try.underlying22 (.int .u8 0) 1 infoU8 rfl (by decide) wo.heap.size wo u5 _ rfl (hI.out.alloc _) (hB.out.alloc hsb _) (by simp; omega) (some ⟨wr.heap.size, 0, none⟩) 1 1 [.int .u8 (d1 : Int)] rfl rfl (fun e => by simp at e) one_cell (by simp [Value.oneCell']) li.out ?_; intro v1 w1 O1 B1 G1 b1
               have O1' : Own w1 wo.heap.size 5 u6 (u8l ((padBy 92 KK).take k)) := (hO.out.alloc _).keep G1.out hA.out
               have A1 : Apart v1 u6 := hA.out.grow (hO.out.alloc _) b1.out
               have s1 := B1.out.size
               replace O1' := Lib.hid O1'
               replace A1 := Lib.hid A1)
            | (at_builtin; refine wpList_append_x rfl (.tmp 31) (.tmp 34) 22 rfl 5 Try.underlying22 (.int .u8 0) 1 infoU8 rfl (by decide) wo.heap.size wo u6 _ rfl (O1'.out.alloc _) (B1.out.alloc s1 _) (by simp; omega) (some ⟨w1.heap.size, 0, none⟩) 1 1 [.int .u8 (d2 : Int)] rfl rfl (fun e => by simp at e) one_cell (by simp [Value.oneCell']) lo.out ?_; intro v2 w2 O2 B2 G2 b2))
          have O3 : Own w2 wo.heap.size 5 v1 (u8l ((padBy 54 KK).take k) ++ [.int .u8 (d1 : Int)]) := (O1.out.alloc _).keep G2.out A1.out.symm
          have A2 : Apart v1 v2 := (A1.out.symm.grow (O1.out.alloc _) b2.out).symm
          replace O3 := Lib.hid O3
          replace A2 := Lib.hid A2
          go_roundw
          case rel => exact ⟨k + 1, by omega, by go_num, by rw [e54.out, u8l_append]; exact O3.out, by rw [e92.out, u8l_append]; exact O2.out, A2.out, B2.out⟩
          case measure => simp [intOf]; omega
      · obtain rfl : k = 64 := by omega
        simp only [show ((64 : Nat) : Int) = 64 from rfl]
        rw [List.take_of_length_le (by simp)] at hI hO
        have hT := Ty.out.below (hB.mono (Nat.le_refl _))
        have hsb := hB.size
        have psm : ∀ x ∈ padBy 54 KK ++ t, x < 256 := fun x hx => by
          rcases List.mem_append.1 hx with hx | hx
          · exact padBy_small (by decide) hks.out x hx
          · exact tsm.out x hx
        have ple : (padBy 54 KK ++ t).length ≤ 1000000 := by rw [List.length_append, length_padBy, ← hm.out]; omega
        replace hI := Lib.hid hI
        replace hO := Lib.hid hO
        replace hA := Lib.hid hA
        replace hB := Lib.hid hB
        replace hT := Lib.hid hT
        replace psm := Lib.hid psm
        replace ple := Lib.hid ple
        go_wp2_with (first
          | (at_builtin; refine wpList_append_t (by rfl) (.tmp 37) (.tmp 38) rfl wo.heap.size wo u5 (padBy 54 KK) rfl hI.out hB.out hsb (.slice at_ m ct) t rfl hT.out (by rw [length_padBy, ← hm.out]; omega) ?_; intro v1 w1 O1 B1 G1 b1))
        have O1' : Own w1 wo.heap.size 5 u6 (u8l (padBy 92 KK)) := hO.out.keep G1.out hA.out
        have s1 := B1.out.size
        have T1 := O1.out.text psm.out
        have rs := ref_sum w1 v1 _ T1 ple.out
        replace O1' := Lib.hid O1'
        replace T1 := Lib.hid T1
        replace rs := Lib.hid rs
        refine rs.out.mono ?_
        rintro e w2 ⟨v2, rfl, O2, B2⟩
        have O2' := O1'.out.below B2
        have B2' : Below wo.heap.size wo w2 := B1.out.trans (B2.mono s1)
        have s2 := B2'.size
        have ism := sumOf_lt (padBy 54 KK ++ t)
        have ile := length_sumOf (padBy 54 KK ++ t)
        have T2 := O2.text ism
        replace O2 := Lib.hid O2
        replace O2' := Lib.hid O2'
        replace B2' := Lib.hid B2'
        replace B2 := Lib.hid B2
        replace ism := Lib.hid ism
        replace ile := Lib.hid ile
        replace T2 := Lib.hid T2
        clear rs
        obtain ⟨I, hI2⟩ : ∃ I, I = sumOf (padBy 54 KK ++ t) := ⟨_, rfl⟩
        rw [← hI2] at T2 ism ile mac_eq
        have psm2 : ∀ x ∈ padBy 92 KK ++ I, x < 256 := fun x hx => by
          rcases List.mem_append.1 hx with hx | hx
          · exact padBy_small (by decide) hks.out x hx
          · exact ism.out x hx
        replace hI2 := Lib.hid hI2
        replace psm2 := Lib.hid psm2
        go_wp2_with (first
          | (at_builtin; refine wpList_append_s (by rfl) (.tmp 36) (.tmp 40) rfl wo.heap.size wo u6 (padBy 92 KK) rfl O2'.out B2'.out s2 v2 I rfl T2.out (by rw [length_padBy, ile.out]; omega) ?_; intro v3 w3 O3 B3))
        have s3 := B3.out.size
        have T3 := O3.out.text psm2.out
        have rs := ref_sum w3 v3 _ T3 (by rw [List.length_append, length_padBy, ile.out]; omega)
        rw [mac_eq.out] at rs
        replace T3 := Lib.hid T3
        replace rs := Lib.hid rs
        refine rs.out.mono ?_
        rintro e w4 ⟨v4, rfl, O4, B4⟩
        replace O4 := Lib.hid O4
        replace B4 := Lib.hid B4
        go_wp2_with fail
        go_ret
        exact ⟨v4, rfl, O4.out.weaken (by omega), (Bx.out.trans (B3.out.mono swo)).trans (B4.out.mono (by omega))⟩

end Go.Proofs.Ytjbmdeppoobccaa
