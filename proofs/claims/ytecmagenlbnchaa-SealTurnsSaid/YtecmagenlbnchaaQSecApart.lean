/-
  Layer 7's law: what Wrap and Unwrap say of any text; alive. Conditions: a key of 32 bytes.
  Law WrapBack: what is wrapped is unwrapped as it was; what unwraps is the wrap of what comes. Conditions: a key of 32 bytes; texts not too long.
  Sectors are turned to ones that are unlike just where they are. No condition; no program in sight.
-/
import Derived.Test.YtecmagenlbnchaaQRef05f
import Derived.Test.YtecmagenlbnchaaQXtsVec
import Derived.Test.YtecmagenlbnchaaQAesBack05
namespace Go.Proofs.Ytecmagenlbnchaa
set_option maxRecDepth 100000
open Go.RowKit

set_option maxRecDepth 100000 in
theorem wrap_bad (w : World) (key : List Nat) (ao : Option Addr) (m cap : Nat) (hm : m < 9223372036854775808) (hf : fitsB m 0 = false) :
    Calls Try.prog 42 #[.agg (u8s key), .slice ao m cap] w fun e w' => e = .returned (.tuple #[.slice none 0 0, .int .i64 3]) ∧ Below w.heap.size w w' := by
  have cf := Lib.hid (fits_any (w.alloc (.cells (u8s key) 23)) m 0 hm (by decide))
  rw [hf] at cf
  have B0 : Below w.heap.size w (w.alloc (.cells (u8s key) 23)) := (Below.refl _ _).alloc (Nat.le_refl _) _
  simp only [Int.natCast_zero] at cf
  replace B0 := Lib.hid B0
  replace hf := Lib.hid hf
  go_enter Try.func42, Try.ntmps42
  go_wp2_with fail
  go_step3
  go_wp2_with fail
  refine cf.out.mono ?_
  rintro e w0 ⟨rfl, rfl⟩
  go_wp2_with fail
  rw [Exit.noGoto_ret]
  go_ret2
  exact ⟨rfl, B0.out⟩
set_option maxRecDepth 100000 in
theorem unwrap_bad (w : World) (key : List Nat) (ao : Option Addr) (m cap : Nat) (hm : m < 9223372036854775808) (hf : fitsB m 1 = false) :
    Calls Try.prog 44 #[.agg (u8s key), .slice ao m cap] w fun e w' => e = .returned (.tuple #[.slice none 0 0, .int .i64 3]) ∧ Below w.heap.size w w' := by
  have cf := Lib.hid (fits_any (w.alloc (.cells (u8s key) 23)) m 1 hm (by decide))
  rw [hf] at cf
  have B0 : Below w.heap.size w (w.alloc (.cells (u8s key) 23)) := (Below.refl _ _).alloc (Nat.le_refl _) _
  simp only [show ((1 : Nat) : Int) = 1 from rfl] at cf
  replace B0 := Lib.hid B0
  replace hf := Lib.hid hf
  go_enter Try.func44, Try.ntmps44
  go_wp2_with fail
  refine cf.out.mono ?_
  rintro e w0 ⟨rfl, rfl⟩
  go_wp2_with fail
  go_ret2
  exact ⟨rfl, B0.out⟩
def wrapE (t : List Nat) : Int := if fitsB t.length 0 = true then 0 else 3
def unwE (V : Nat → Nat) (t : List Nat) : Int := if fitsB t.length 1 = true then (if (unL V t).take 8 = List.replicate 8 166 then 0 else 20) else 3
theorem wrap_st (w : World) (key : List Nat) (hk : key.length = 32) (hs : ∀ x ∈ key, x < 256) (v : Value) (t : List Nat) (ht : TextAt w v t) (hl : t.length < 9223372036854775808) :
    Calls Try.prog 42 #[.agg (u8s key), v] w fun e w' => ∃ x, e = .returned (.tuple #[x, .int .i64 (wrapE t)]) ∧ TextAt w' x (if fitsB t.length 0 = true then wrapL (byt (wordsOf (byt key))) t else []) ∧ Below w.heap.size w w' := by
  obtain ⟨ao, cap, rfl, _⟩ := ht.ex
  unfold wrapE
  cases hf : fitsB t.length 0 with
  | true =>
    refine (wrap_any w key hk hs ao t _ cap rfl ht hf).mono ?_
    rintro e w' ⟨x, rfl, h1, h2⟩
    exact ⟨x, rfl, h1, h2⟩
  | false =>
    refine (wrap_bad w key ao _ cap hl hf).mono ?_
    rintro e w' ⟨rfl, h2⟩
    exact ⟨_, rfl, TextAt.nil _, h2⟩
theorem unwrap_st (w : World) (key : List Nat) (hk : key.length = 32) (hs : ∀ x ∈ key, x < 256) (v : Value) (t : List Nat) (ht : TextAt w v t) (hl : t.length < 9223372036854775808) :
    Calls Try.prog 44 #[.agg (u8s key), v] w fun e w' => ∃ x, e = .returned (.tuple #[x, .int .i64 (unwE (byt (wordsOf (byt key))) t)]) ∧ TextAt w' x (if unwE (byt (wordsOf (byt key))) t = 0 then (unL (byt (wordsOf (byt key))) t).drop 8 else []) ∧ Below w.heap.size w w' := by
  obtain ⟨ao, cap, rfl, _⟩ := ht.ex
  unfold unwE
  cases hf : fitsB t.length 1 with
  | true =>
    refine (unwrap_any w key hk hs ao t _ cap rfl ht hf).mono ?_
    rintro e w' ⟨⟨x, rfl, h1, h2⟩, h3⟩
    refine ⟨x, rfl, ?_, h3⟩
    by_cases h : (unL (byt (wordsOf (byt key))) t).take 8 = List.replicate 8 166
    · rw [if_pos rfl, if_pos h, if_pos rfl]; exact h1 h
    · rw [if_pos rfl, if_neg h, if_neg (by decide), h2 h]; exact TextAt.nil _
  | false =>
    refine (unwrap_bad w key ao _ cap hl hf).mono ?_
    rintro e w' ⟨rfl, h2⟩
    exact ⟨_, rfl, TextAt.nil _, h2⟩

theorem wp_make {w : World} {o : Oper} {a : Act} {K : Act → World → Prop} {Q : Exit → Act → World → Prop} (x y : Operand) (ho : o.op = .makeSlice 25 x y) (l : Nat) (hl : l ≤ 16777216) (hx : a.eval x = .int .i64 (l : Int)) (hy : a.eval y = .int .i64 (l : Int))
    (hK : K (a.put o.dst (.slice (some ⟨w.heap.size, 0, none⟩) l l)) (w.alloc (.cells (u8s (List.replicate l 0)) 5))) : o.wp Try.prog a w K Q := by
  unfold Oper.wp execOp
  simp only [ho, hx, hy, Sem.run_bind, Sem.run_pure, run_make_u8 l l (Nat.le_refl _) hl, Result.andThen_ok]
  exact hK
theorem row_text {w : World} {b ty : Nat} {t : List Nat} (h : RowB w b ty t) (hs : ∀ x ∈ t, x < 256) {n : Nat} (hn : t.length = n) : TextAt w (.slice (some ⟨b, 0, none⟩) n n) t := by
  subst hn
  refine ⟨some ⟨b, 0, none⟩, t.length, rfl, Nat.le_refl _, fun e => by simp at e, fun i hi => ⟨byt_lt hs i, b, 0, rfl, ?_⟩⟩
  rw [Nat.zero_add]
  exact h.cell (i := i) (x := byt t i) (by simp [byt, List.getD, hi])
def fixKey : List Nat := tabN 32 (fun i => i)
theorem fix_words : ∀ q, q < 240 → byt (wordsOf (byt fixKey)) q = bt fixW q :=
  wordsP_of (key := pk (fun i => i) 32) (f := byt fixKey) (fun q hq => by
    rw [bt_pk 32 (fun i hi => by omega) q hq]
    simp [fixKey, byt, List.getD, tabN, hq]) rfl
theorem fixT_lt : ∀ x ∈ fixT, x < 256 := by decide
theorem fix_first : ∀ i, i < 4 → byt (wrapL (byt (wordsOf (byt fixKey))) fixT) i = bt (100 + 256 * (232 + 256 * (195 + 256 * 249))) i := fun i hi => by
  have e : byt (wrapL (byt (wordsOf (byt fixKey))) fixT) i = wrapTo (byt (wordsOf (byt fixKey))) (markF fixT) 2 12 i := by
    unfold wrapL
    rw [byt_bytesOf _ (by show i < 24; omega)]
    rfl
  have h := wrapP_eq (S := markF fixT) (s := fixS) fix_words (fun i hi => by
    show markF fixT i = bt (pk (markF fixT) 24) i
    rw [bt_pk 24 (fun j _ => mark_lt fixT_lt j) i hi]) 12 i (by omega)
  have hf := fix_wrap
  rw [frc_eq, frc_eq] at hf
  rw [e, h]
  exact bt_low hi hf
theorem fix_not : ¬ (unL (byt (wordsOf (byt fixKey))) (List.replicate 24 0)).take 8 = List.replicate 8 166 := fun h => by
  have hu : unL (byt (wordsOf (byt fixKey))) (List.replicate 24 0) = bytesOf (unTo (byt (wordsOf (byt fixKey))) (byt (List.replicate 24 0)) 2 12 12) 24 := by
    unfold unL
    rw [List.length_replicate]
  rw [hu] at h
  have h0 := (take_marks (F := unTo (byt (wordsOf (byt fixKey))) (byt (List.replicate 24 0)) 2 12 12) (m := 24) (by decide)).1 h 0 (by decide)
  have h1 := unP_eq (S := byt (List.replicate 24 0)) (s := 0) fix_words (fun i hi => by
    have h2 : byt (List.replicate 24 0) i = 0 := by
      unfold byt
      rw [List.getD_eq_getElem?_getD, List.getElem?_replicate, if_pos hi]; rfl
    rw [h2]
    unfold bt
    rw [Nat.zero_div, Nat.zero_mod]) 12 0 (by decide)
  have hf := fix_un
  rw [frc_eq] at hf
  rw [h1] at h0
  unfold bt at h0
  rw [Nat.pow_zero, Nat.div_one] at h0
  rw [h0] at hf
  exact absurd hf (by decide)

/-- What stays while alive asks. -/
structure AskW (w : World) (g o gb : Nat) (v : Value) : Prop where
  p : TextAt w v fixT
  b : RowB w gb 91 fixT
  c0 : w.cell? ⟨g, o, none⟩ = some (.int .u8 100)
  c1 : w.cell? ⟨g, o + 1, none⟩ = some (.int .u8 232)
  c2 : w.cell? ⟨g, o + 2, none⟩ = some (.int .u8 195)
  c3 : w.cell? ⟨g, o + 3, none⟩ = some (.int .u8 249)

end Go.Proofs.Ytecmagenlbnchaa
namespace Go.Proofs.Ytecmagenlbnchaa
set_option maxRecDepth 100000
open Go.RowKit

/-- What comes of a text wrapped, unwrapped. -/
theorem back_of {V : Nat → Nat} (hV : ∀ i, V i < 256) {t : List Nat} (hs : ∀ x ∈ t, x < 256) (hf : fitsB t.length 0 = true) : unwE V (wrapL V t) = 0 ∧ (unL V (wrapL V t)).drop 8 = t := by
  obtain ⟨h8, h16, h128⟩ := of_decide_eq_true hf
  have h1 := unL_wrapL hV hs h8 (by omega)
  have hf1 : fitsB (wrapL V t).length 1 = true := by
    rw [length_wrapL]
    exact decide_eq_true ⟨by omega, by omega, by omega⟩
  unfold unwE
  rw [if_pos hf1, h1]
  refine ⟨if_pos ?_, ?_⟩
  · exact List.take_left' rfl
  · exact List.drop_left' rfl
/-- What unwraps. -/
theorem wrap_of {V : Nat → Nat} (hV : ∀ i, V i < 256) {t : List Nat} (hs : ∀ x ∈ t, x < 256) (h0 : unwE V t = 0) : wrapE ((unL V t).drop 8) = 0 ∧ fitsB ((unL V t).drop 8).length 0 = true ∧ wrapL V ((unL V t).drop 8) = t := by
  unfold unwE at h0
  by_cases hf : fitsB t.length 1 = true
  · rw [if_pos hf] at h0
    by_cases ht : (unL V t).take 8 = List.replicate 8 166
    · obtain ⟨h8, h16, h128⟩ := of_decide_eq_true hf
      have e : unL V t = List.replicate 8 166 ++ (unL V t).drop 8 := by rw [← ht, List.take_append_drop]
      have hl : ((unL V t).drop 8).length = t.length - 8 := by rw [List.length_drop, length_unL]
      have hf2 : fitsB ((unL V t).drop 8).length 0 = true := by
        rw [hl]
        exact decide_eq_true ⟨by omega, by omega, by omega⟩
      exact ⟨by unfold wrapE; rw [if_pos hf2], hf2, wrapL_unL hV hs h8 (by omega) e⟩
    · rw [if_neg ht] at h0; exact absurd h0 (by decide)
  · rw [if_neg hf] at h0; exact absurd h0 (by decide)
theorem wrapE_nil : wrapE [] = 3 := rfl

end Go.Proofs.Ytecmagenlbnchaa
namespace Go.Proofs.Ytecmagenlbnchaa
set_option maxRecDepth 100000
open Go.RowKit

theorem seg_tab {l : List Nat} {p : Nat} (h : p + 16 ≤ l.length) : (l.drop p).take 16 = tab (fun i => byt l (p + i)) := by
  apply List.ext_getElem?
  intro i
  by_cases hi : i < 16
  · rw [tab_get _ hi, List.getElem?_take, if_pos hi, List.getElem?_drop]
    simp [byt, List.getD, show p + i < l.length by omega]
  · rw [List.getElem?_eq_none (by simp; omega), List.getElem?_eq_none (by rw [length_tab]; omega)]
theorem seg_small {l : List Nat} (h : ∀ x ∈ l, x < 256) (p : Nat) : ∀ x ∈ (l.drop p).take 16, x < 256 := fun x hx => h x (List.mem_of_mem_drop (List.mem_of_mem_take hx))
/-- Blocks are turned to unlike ones just where they are unlike. -/
theorem sec_apart {E : (Nat → Nat) → Nat → Nat} (hE : ∀ x y, Same16 x y → Same16 (E x) (E y)) (hI : ∀ x y, Bytes16 x → Bytes16 y → Same16 (E x) (E y) → Same16 x y) {m : Nat → Nat} (hm : Bytes16 m) {a b : List Nat} {n k : Nat} (la : a.length = n) (lb : b.length = n) (sa : ∀ x ∈ a, x < 256) (sb : ∀ x ∈ b, x < 256) (hk : 16 * k + 16 ≤ n) :
    (((bytesOf (sec E m (byt a)) n).drop (16 * k)).take 16 == ((bytesOf (sec E m (byt b)) n).drop (16 * k)).take 16) = ((a.drop (16 * k)).take 16 == (b.drop (16 * k)).take 16) := by
  have seg : ∀ l : List Nat, (∀ x ∈ l, x < 256) → ((bytesOf (sec E m (byt l)) n).drop (16 * k)).take 16 = tab (under E (maskTo m k) (blk (byt l) k)) := fun l _ => by
    rw [seg_tab (by rw [length_bytesOf]; exact hk)]
    refine tab_ext fun i hi => ?_
    rw [byt_bytesOf _ (by omega)]
    exact sec_blk E m (byt l) k i hi
  rw [seg a sa, seg b sb, seg_tab (by rw [la]; exact hk), seg_tab (by rw [lb]; exact hk), Bool.eq_iff_iff, beq_iff_eq, beq_iff_eq]
  constructor
  · intro h
    have h1 := xor16_same (same_tab h) (maskTo m k)
    unfold under at h1
    rw [xor16_twice, xor16_twice] at h1
    have h2 := hI _ _ (xor16_lt (fun i _ => byt_lt sa _) (maskTo_lt hm k)) (xor16_lt (fun i _ => byt_lt sb _) (maskTo_lt hm k)) h1
    have h3 := xor16_same h2 (maskTo m k)
    rw [xor16_twice, xor16_twice] at h3
    exact tab_eq h3
  · intro h
    exact tab_eq (under_same hE (same_tab h))

end Go.Proofs.Ytecmagenlbnchaa
