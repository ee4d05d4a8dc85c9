/-
  Law WrapBack: what is wrapped is unwrapped as it was; what unwraps is the wrap of what comes. Conditions: a key of 32 bytes; texts not too long.
-/
import Derived.Test.YtnadgjlmlnhknaaLaw07
namespace Go.Proofs.Ytnadgjlmlnhknaa
open Go.RowKit

/-- What comes of a text wrapped, unwrapped. -/
theorem back_of {V : Nat → Nat} (hV : ∀ i, V i < 256) {t : List Nat} (hs : ∀ x ∈ t, x < 256) (hf : fitsB t.length 0 = true) : unwE V (wrapL V t) = 0 ∧ (unL V (wrapL V t)).drop 8 = t := by
  obtain ⟨h8, h16, h128⟩ := of_decide_eq_true hf
  have h1 := unL_wrapL hV hs h8 (by omega)
  have hf1 : fitsB (wrapL V t).length 1 = true := by
    rw [length_wrapL]
    exact decide_eq_true ⟨by omega, by omega, by omega⟩
  unfold unwE
  rw [if_pos hf1, h1]
  refine ⟨if_pos ?_, ?_⟩
  · exact List.take_left' rfl
  · exact List.drop_left' rfl
/-- What unwraps. -/
theorem wrap_of {V : Nat → Nat} (hV : ∀ i, V i < 256) {t : List Nat} (hs : ∀ x ∈ t, x < 256) (h0 : unwE V t = 0) : wrapE ((unL V t).drop 8) = 0 ∧ fitsB ((unL V t).drop 8).length 0 = true ∧ wrapL V ((unL V t).drop 8) = t := by
  unfold unwE at h0
  by_cases hf : fitsB t.length 1 = true
  · rw [if_pos hf] at h0
    by_cases ht : (unL V t).take 8 = List.replicate 8 166
    · obtain ⟨h8, h16, h128⟩ := of_decide_eq_true hf
      have e : unL V t = List.replicate 8 166 ++ (unL V t).drop 8 := by rw [← ht, List.take_append_drop]
      have hl : ((unL V t).drop 8).length = t.length - 8 := by rw [List.length_drop, length_unL]
      have hf2 : fitsB ((unL V t).drop 8).length 0 = true := by
        rw [hl]
        exact decide_eq_true ⟨by omega, by omega, by omega⟩
      exact ⟨by unfold wrapE; rw [if_pos hf2], hf2, wrapL_unL hV hs h8 (by omega) e⟩
    · rw [if_neg ht] at h0; exact absurd h0 (by decide)
  · rw [if_neg hf] at h0; exact absurd h0 (by decide)
theorem wrapE_nil : wrapE [] = 3 := rfl

set_option maxHeartbeats 4000000 in
set_option maxRecDepth 100000 in
theorem wrapBack_any (w : World) (key : List Nat) (hk : key.length = 32) (hs : ∀ x ∈ key, x < 256) (va : Value) (ta : List Nat) (ha : TextAt w va ta) (hla : ta.length < 9223372036854775808) (vb : Value) (tb : List Nat) (hb : TextAt w vb tb) (hlb : tb.length < 9223372036854775808) :
    Calls Try.prog 15 #[.agg (u8s key), va, vb] w fun e w' => e = .returned (.bool true) ∧ Below w.heap.size w w' := by
  obtain ⟨aa, ca, rfl, _⟩ := ha.ex
  obtain ⟨ab, cb, rfl, _⟩ := hb.ex
  obtain ⟨ma, ea⟩ : ∃ m, m = ta.length := ⟨_, rfl⟩
  obtain ⟨mb, eb⟩ : ∃ m, m = tb.length := ⟨_, rfl⟩
  rw [← ea] at ha hla ⊢
  rw [← eb] at hb hlb ⊢
  have al := Lib.hid (fun x => alive07 x)
  have B0 : Below w.heap.size w (w.alloc (.cells (u8s key) 23)) := (Below.refl _ _).alloc (Nat.le_refl _) _
  replace ha := Lib.hid ha
  replace hb := Lib.hid hb
  replace ea := Lib.hid ea
  replace eb := Lib.hid eb
  by_cases g : 200 < ma ∨ 200 < mb
  · by_cases g0 : 200 < ma
    · have d : decide ((ma : Int) > 200) = true := decide_eq_true (by omega)
      replace B0 := Lib.hid B0
      go_enter Try.func15, Try.ntmps15
      go_wp2_with fail
      refine (al.out _).mono ?_
      rintro e w2 ⟨rfl, B2⟩
      have low := B0.out.trans (B2.mono B0.out.size)
      replace low := Lib.hid low
      go_wp2_with fail
      go_ret
      exact ⟨rfl, low.out⟩
    · have d : decide ((ma : Int) > 200) = false := decide_eq_false (by omega)
      have d2 : decide ((mb : Int) > 200) = true := decide_eq_true (by omega)
      replace B0 := Lib.hid B0
      go_enter Try.func15, Try.ntmps15
      go_wp2_with fail
      refine (al.out _).mono ?_
      rintro e w2 ⟨rfl, B2⟩
      have low := B0.out.trans (B2.mono B0.out.size)
      replace low := Lib.hid low
      go_wp2_with fail
      go_ret
      exact ⟨rfl, low.out⟩
  · have d : decide ((ma : Int) > 200) = false := decide_eq_false (by omega)
    have d2 : decide ((mb : Int) > 200) = false := decide_eq_false (by omega)
    have Rk : RowB (w.alloc (.cells (u8s key) 23)) w.heap.size 23 key := heap_alloc_new _ _
    have ik := info32 hk
    have cw1 := Lib.hid (wrap_st (w.alloc (.cells (u8s key) 23)) key hk hs (.slice aa ma ca) ta (ha.out.below B0) (by rw [← ea.out]; omega))
    have hV := words_lt (key := byt key) (byt_lt hs) 60
    obtain ⟨V, eV⟩ : ∃ V, V = byt (wordsOf (byt key)) := ⟨_, rfl⟩
    have hV' : ∀ i, V i < 256 := fun i => by rw [eV]; exact hV i
    have us : ∀ (wx : World) (v : Value) (t : List Nat), TextAt wx v t → t.length < 9223372036854775808 → Calls Try.prog 37 #[.agg (u8s key), v] wx fun e w' => ∃ x, e = .returned (.tuple #[x, .int .i64 (unwE V t)]) ∧ TextAt w' x (if unwE V t = 0 then (unL V t).drop 8 else []) ∧ Below wx.heap.size wx w' := fun wx v t h1 h2 => by
      rw [eV]; exact unwrap_st wx key hk hs v t h1 h2
    have ws : ∀ (wx : World) (v : Value) (t : List Nat), TextAt wx v t → t.length < 9223372036854775808 → Calls Try.prog 35 #[.agg (u8s key), v] wx fun e w' => ∃ x, e = .returned (.tuple #[x, .int .i64 (wrapE t)]) ∧ TextAt w' x (if fitsB t.length 0 = true then wrapL V t else []) ∧ Below wx.heap.size wx w' := fun wx v t h1 h2 => by
      rw [eV]; exact wrap_st wx key hk hs v t h1 h2
    rw [← eV] at cw1
    replace B0 := Lib.hid B0
    replace Rk := Lib.hid Rk
    replace hV := Lib.hid hV
    replace hV' := Lib.hid hV'
    replace eV := Lib.hid eV
    replace us := Lib.hid us
    replace ws := Lib.hid ws
    go_enter Try.func15, Try.ntmps15
    go_wp2_with (refine wpList_load_b (by rfl) 23 (.tmp 3) rfl w.heap.size rfl 23 key Rk.out _ Try.underlying23 rfl ik ?_)
    refine cw1.out.mono ?_
    clear cw1
    rintro e w1 ⟨vx, rfl, tx, B1⟩
    have low1 := B0.out.trans (B1.mono B0.out.size)
    have K1 := RowB.below Rk.out B1 Rk.out.lt
    cases hf : fitsB ta.length 0 with
    | true =>
      have hE : wrapE ta = 0 := by unfold wrapE; rw [if_pos hf]
      obtain ⟨b1, b2⟩ := back_of hV'.out ha.out.small hf
      rw [if_pos hf] at tx
      have lw : (wrapL V ta).length = ma + 8 := by rw [length_wrapL, ← ea.out]
      have cu := us.out w1 vx _ tx (by rw [lw]; omega)
      rw [b1, if_pos rfl, b2] at cu
      obtain ⟨ax, cx, rfl, _⟩ := tx.ex
      rw [lw] at tx cu ⊢
      rw [hE]
      have l8 : IntKind.i64.wrap ((ma : Int) + 8) = (ma : Int) + 8 := IntWalk.i64_in _ (by omega)
      replace low1 := Lib.hid low1
      replace K1 := Lib.hid K1
      replace tx := Lib.hid tx
      replace B1 := Lib.hid B1
      replace hE := Lib.hid hE
      replace b1 := Lib.hid b1
      replace b2 := Lib.hid b2
      replace lw := Lib.hid lw
      replace hf := Lib.hid hf
      replace cu := Lib.hid cu
      go_wp2_with (refine wpList_load_b (by rfl) 23 (.tmp 3) rfl w.heap.size rfl 23 key K1.out _ Try.underlying23 rfl ik ?_)
      refine cu.out.mono ?_
      clear cu
      rintro e wz ⟨vy, rfl, ty, Bz⟩
      have lowz := low1.out.trans (Bz.mono low1.out.size)
      have Kz := RowB.below K1.out Bz K1.out.lt
      have r1 := run_str ty
      have r2 := run_str (ha.out.below lowz)
      replace lowz := Lib.hid lowz
      replace Kz := Lib.hid Kz
      replace ty := Lib.hid ty
      replace Bz := Lib.hid Bz
      have cu := Lib.hid (us.out wz (.slice ab mb cb) tb (hb.out.below lowz.out) (by rw [← eb.out]; omega))
      go_wp2_with (refine wpList_load_b (by rfl) 23 (.tmp 3) rfl w.heap.size rfl 23 key Kz.out _ Try.underlying23 rfl ik ?_)
      refine cu.out.mono ?_
      clear cu
      rintro e w3 ⟨vp, rfl, tp, B3⟩
      have low3 := lowz.out.trans (B3.mono lowz.out.size)
      have K3 := RowB.below Kz.out B3 Kz.out.lt
      by_cases h0 : unwE V tb = 0
      · obtain ⟨z1, z2, z3⟩ := wrap_of hV'.out hb.out.small h0
        rw [if_pos h0] at tp
        have lp : ((unL V tb).drop 8).length < 9223372036854775808 := by rw [List.length_drop, length_unL, ← eb.out]; omega
        have cv := ws.out w3 vp _ tp lp
        rw [z1, if_pos z2, z3] at cv
        rw [h0]
        replace cv := Lib.hid cv
        replace low3 := Lib.hid low3
        replace K3 := Lib.hid K3
        replace tp := Lib.hid tp
        replace B3 := Lib.hid B3
        replace z1 := Lib.hid z1
        replace z2 := Lib.hid z2
        replace z3 := Lib.hid z3
        replace h0 := Lib.hid h0
        go_wp2_with (refine wpList_load_b (by rfl) 23 (.tmp 3) rfl w.heap.size rfl 23 key K3.out _ Try.underlying23 rfl ik ?_)
        refine cv.out.mono ?_
        clear cv
        rintro e w4 ⟨vg, rfl, tg, B4⟩
        have low4 := low3.out.trans (B4.mono low3.out.size)
        replace low4 := Lib.hid low4
        replace tg := Lib.hid tg
        replace B4 := Lib.hid B4
        go_wp2_with fail
        refine (al.out _).mono ?_
        rintro e w5 ⟨rfl, B5⟩
        have low5 := low4.out.trans (B5.mono low4.out.size)
        have r3 := run_str (tg.out.below B5)
        have r4 := run_str (hb.out.below low5)
        replace low5 := Lib.hid low5
        replace B5 := Lib.hid B5
        go_wp2_with fail
        go_ret
        exact ⟨rfl, low5.out⟩
      · rw [if_neg h0] at tp
        have cv := ws.out w3 vp _ tp (by decide)
        rw [wrapE_nil] at cv
        generalize unwE V tb = E at *
        replace cv := Lib.hid cv
        replace low3 := Lib.hid low3
        replace K3 := Lib.hid K3
        replace tp := Lib.hid tp
        replace B3 := Lib.hid B3
        go_wp2_with (refine wpList_load_b (by rfl) 23 (.tmp 3) rfl w.heap.size rfl 23 key K3.out _ Try.underlying23 rfl ik ?_)
        refine cv.out.mono ?_
        clear cv
        rintro e w4 ⟨vg, rfl, tg, B4⟩
        have low4 := low3.out.trans (B4.mono low3.out.size)
        replace low4 := Lib.hid low4
        replace tg := Lib.hid tg
        replace B4 := Lib.hid B4
        go_wp2_with fail
        refine (al.out _).mono ?_
        rintro e w5 ⟨rfl, B5⟩
        have low5 := low4.out.trans (B5.mono low4.out.size)
        replace low5 := Lib.hid low5
        replace B5 := Lib.hid B5
        go_wp2_with fail
        go_ret
        exact ⟨rfl, low5.out⟩
    | false =>
      have hE : wrapE ta = 3 := by unfold wrapE; rw [hf]; rfl
      rw [hE]
      obtain ⟨wz, ez⟩ : ∃ wz, wz = w1 := ⟨_, rfl⟩
      subst ez
      have lowz := low1
      have Kz := K1
      clear low1 K1
      replace lowz := Lib.hid lowz
      replace Kz := Lib.hid Kz
      replace tx := Lib.hid tx
      replace B1 := Lib.hid B1
      replace hE := Lib.hid hE
      replace hf := Lib.hid hf
      have cu := Lib.hid (us.out wz (.slice ab mb cb) tb (hb.out.below lowz.out) (by rw [← eb.out]; omega))
      go_wp2_with (refine wpList_load_b (by rfl) 23 (.tmp 3) rfl w.heap.size rfl 23 key Kz.out _ Try.underlying23 rfl ik ?_)
      refine cu.out.mono ?_
      clear cu
      rintro e w3 ⟨vp, rfl, tp, B3⟩
      have low3 := lowz.out.trans (B3.mono lowz.out.size)
      have K3 := RowB.below Kz.out B3 Kz.out.lt
      by_cases h0 : unwE V tb = 0
      · obtain ⟨z1, z2, z3⟩ := wrap_of hV'.out hb.out.small h0
        rw [if_pos h0] at tp
        have lp : ((unL V tb).drop 8).length < 9223372036854775808 := by rw [List.length_drop, length_unL, ← eb.out]; omega
        have cv := ws.out w3 vp _ tp lp
        rw [z1, if_pos z2, z3] at cv
        rw [h0]
        replace cv := Lib.hid cv
        replace low3 := Lib.hid low3
        replace K3 := Lib.hid K3
        replace tp := Lib.hid tp
        replace B3 := Lib.hid B3
        replace z1 := Lib.hid z1
        replace z2 := Lib.hid z2
        replace z3 := Lib.hid z3
        replace h0 := Lib.hid h0
        go_wp2_with (refine wpList_load_b (by rfl) 23 (.tmp 3) rfl w.heap.size rfl 23 key K3.out _ Try.underlying23 rfl ik ?_)
        refine cv.out.mono ?_
        clear cv
        rintro e w4 ⟨vg, rfl, tg, B4⟩
        have low4 := low3.out.trans (B4.mono low3.out.size)
        replace low4 := Lib.hid low4
        replace tg := Lib.hid tg
        replace B4 := Lib.hid B4
        go_wp2_with fail
        refine (al.out _).mono ?_
        rintro e w5 ⟨rfl, B5⟩
        have low5 := low4.out.trans (B5.mono low4.out.size)
        have r3 := run_str (tg.out.below B5)
        have r4 := run_str (hb.out.below low5)
        replace low5 := Lib.hid low5
        replace B5 := Lib.hid B5
        go_wp2_with fail
        go_ret
        exact ⟨rfl, low5.out⟩
      · rw [if_neg h0] at tp
        have cv := ws.out w3 vp _ tp (by decide)
        rw [wrapE_nil] at cv
        generalize unwE V tb = E at *
        replace cv := Lib.hid cv
        replace low3 := Lib.hid low3
        replace K3 := Lib.hid K3
        replace tp := Lib.hid tp
        replace B3 := Lib.hid B3
        go_wp2_with (refine wpList_load_b (by rfl) 23 (.tmp 3) rfl w.heap.size rfl 23 key K3.out _ Try.underlying23 rfl ik ?_)
        refine cv.out.mono ?_
        clear cv
        rintro e w4 ⟨vg, rfl, tg, B4⟩
        have low4 := low3.out.trans (B4.mono low3.out.size)
        replace low4 := Lib.hid low4
        replace tg := Lib.hid tg
        replace B4 := Lib.hid B4
        go_wp2_with fail
        refine (al.out _).mono ?_
        rintro e w5 ⟨rfl, B5⟩
        have low5 := low4.out.trans (B5.mono low4.out.size)
        replace low5 := Lib.hid low5
        replace B5 := Lib.hid B5
        go_wp2_with fail
        go_ret
        exact ⟨rfl, low5.out⟩
end Go.Proofs.Ytnadgjlmlnhknaa
