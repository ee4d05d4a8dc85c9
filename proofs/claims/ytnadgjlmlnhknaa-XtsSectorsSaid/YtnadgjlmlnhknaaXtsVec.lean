/-
  xts: what is turned is turned back; what hangs on what; a fixed call's blocks, reckoned. No condition; no program in sight.
-/
import Derived.Test.YtnadgjlmlnhknaaAesFast
import Derived.Test.YtnadgjlmlnhknaaXtsPlain
import Derived.Test.YtnadgjlmlnhknaaTx
namespace Go.Proofs.Ytnadgjlmlnhknaa

theorem under_under {E D : (Nat → Nat) → Nat → Nat} (hDE : ∀ x, Bytes16 x → Same16 (D (E x)) x) {m x : Nat → Nat} (hm : Bytes16 m) (hx : Bytes16 x) : Same16 (under D m (under E m x)) x := by
  unfold under
  rw [xor16_twice]
  exact (xor16_same (hDE _ (xor16_lt hx hm)) m).trans (by rw [xor16_twice]; exact Same16.refl _)
theorem under_same {E : (Nat → Nat) → Nat → Nat} (hE : ∀ x y, Same16 x y → Same16 (E x) (E y)) {m x y : Nat → Nat} (h : Same16 x y) : Same16 (under E m x) (under E m y) :=
  xor16_same (hE _ _ (xor16_same h m)) m
theorem under_lt {E : (Nat → Nat) → Nat → Nat} (hE : ∀ x, Bytes16 x → Bytes16 (E x)) {m x : Nat → Nat} (hm : Bytes16 m) (hx : Bytes16 x) : Bytes16 (under E m x) :=
  xor16_lt (hE _ (xor16_lt hx hm)) hm
theorem sec_blk (E : (Nat → Nat) → Nat → Nat) (m b : Nat → Nat) (k : Nat) : Same16 (blk (sec E m b) k) (under E (maskTo m k) (blk b k)) := fun i hi => by
  unfold blk sec
  rw [show (16 * k + i) / 16 = k by omega, show (16 * k + i) % 16 = i by omega]
  rfl
theorem sec_lt {E : (Nat → Nat) → Nat → Nat} (hE : ∀ x, Bytes16 x → Bytes16 (E x)) {m b : Nat → Nat} (hm : Bytes16 m) (hb : ∀ i, b i < 256) (i : Nat) : sec E m b i < 256 :=
  under_lt hE (maskTo_lt hm (i / 16)) (x := blk b (i / 16)) (fun _ _ => hb _) (i % 16) (Nat.mod_lt _ (by decide))
/-- What is turned is turned back. -/
theorem sec_back {E D : (Nat → Nat) → Nat → Nat} (hDE : ∀ x, Bytes16 x → Same16 (D (E x)) x) (hD : ∀ x y, Same16 x y → Same16 (D x) (D y)) {m : Nat → Nat} (hm : Bytes16 m) {l : List Nat} (hl : l.length % 16 = 0) (hs : ∀ x ∈ l, x < 256) :
    bytesOf (sec D m (byt (bytesOf (sec E m (byt l)) l.length))) l.length = l := by
  conv => rhs; rw [← bytesOf_byt l]
  refine bytesOf_congr fun i hi => ?_
  have hk : 16 * (i / 16) + 15 < l.length := by omega
  have h1 : Same16 (blk (byt (bytesOf (sec E m (byt l)) l.length)) (i / 16)) (under E (maskTo m (i / 16)) (blk (byt l) (i / 16))) := fun j hj => by
    show byt (bytesOf (sec E m (byt l)) l.length) (16 * (i / 16) + j) = _
    rw [byt_bytesOf _ (by omega)]
    exact sec_blk E m (byt l) (i / 16) j hj
  have hb : Bytes16 (blk (byt l) (i / 16)) := fun j _ => byt_lt hs _
  have h2 := (under_same hD (m := maskTo m (i / 16)) h1).trans (under_under hDE (maskTo_lt hm _) hb)
  have h3 := h2 (i % 16) (by omega)
  show under D (maskTo m (i / 16)) (blk (byt (bytesOf (sec E m (byt l)) l.length)) (i / 16)) (i % 16) = byt l i
  rw [h3]
  show byt l (16 * (i / 16) + i % 16) = byt l i
  congr 1; omega

/-- The fixed call: two blocks of noughts are turned to unlike ones. -/
def xvY : Nat := turnK 2 5
def xvOk : Bool := frc xvY (fun y => frc (pk (dblM (bt y)) 16) fun y' => frc (turnK 1 y) fun a => frc (turnK 1 y') fun b => if (bt a 0 ^^^ bt y 0) = (bt b 0 ^^^ bt y' 0) then 0 else 1) == 1
theorem xv_ok : xvOk = true := by decide +kernel
theorem xvec {f1 f2 : Nat → Nat} (h1 : ∀ q, q < 32 → f1 q = bt 1 q) (h2 : ∀ q, q < 32 → f2 q = bt 2 q) {z : Nat → Nat} (hz : ∀ i, i < 32 → z i = 0) :
    sec (turnF (byt (wordsOf f1))) (turnF (byt (wordsOf f2)) (twk 5)) z 0 ≠ sec (turnF (byt (wordsOf f1))) (turnF (byt (wordsOf f2)) (twk 5)) z 16 := by
  have hok := xv_ok
  unfold xvOk at hok
  rw [frc_eq, frc_eq, frc_eq, frc_eq] at hok
  have e5 : ∀ i, i < 16 → twk 5 i = bt 5 i := by decide +kernel
  have hM : Same16 (turnF (byt (wordsOf f2)) (twk 5)) (bt xvY) := turn_key h2 e5
  generalize turnF (byt (wordsOf f2)) (twk 5) = M at *
  have hM1 : Same16 (dblM M) (bt (pk (dblM (bt xvY)) 16)) := fun i hi => by
    rw [same_dblM hM i hi, bt_pk 16 (fun j hj => dblM_lt (fun _ _ => bt_lt _ _) j hj) i hi]
  have hA : Same16 (turnF (byt (wordsOf f1)) (xor16 (blk z 0) M)) (bt (turnK 1 xvY)) := turn_key h1 fun i hi => by
    show z (16 * 0 + i) ^^^ M i = _
    rw [hz _ (by omega), Nat.zero_xor, hM i hi]
  have hB : Same16 (turnF (byt (wordsOf f1)) (xor16 (blk z 1) (dblM M))) (bt (turnK 1 (pk (dblM (bt xvY)) 16))) := turn_key h1 fun i hi => by
    show z (16 * 1 + i) ^^^ dblM M i = _
    rw [hz _ (by omega), Nat.zero_xor, hM1 i hi]
  intro h
  have e0 : sec (turnF (byt (wordsOf f1))) M z 0 = bt (turnK 1 xvY) 0 ^^^ bt xvY 0 := by
    show turnF (byt (wordsOf f1)) (xor16 (blk z 0) M) 0 ^^^ M 0 = _
    rw [hA 0 (by decide), hM 0 (by decide)]
  have e1 : sec (turnF (byt (wordsOf f1))) M z 16 = bt (turnK 1 (pk (dblM (bt xvY)) 16)) 0 ^^^ bt (pk (dblM (bt xvY)) 16) 0 := by
    show turnF (byt (wordsOf f1)) (xor16 (blk z 1) (dblM M)) 0 ^^^ dblM M 0 = _
    rw [hB 0 (by decide), hM1 0 (by decide)]
  rw [e0, e1] at h
  rw [if_pos h] at hok
  exact absurd hok (by decide)
end Go.Proofs.Ytnadgjlmlnhknaa
