/-
  Keys, plainly: the key of an outer key and a salt; a slot's bytes; stamps. No condition; no program in sight.
-/
import Derived.Test.YtecmagenlbnchaaQOctetPut
import Derived.Test.YtecmagenlbnchaaQXtsVec
import Derived.Test.YtecmagenlbnchaaQStrBytes
namespace Go.Proofs.Ytecmagenlbnchaa
set_option maxRecDepth 100000

/-- The key of an outer key, a salt and a name. -/
def baseK (outer salt name : List Nat) : List Nat := macs (macs salt outer) (name ++ beBytes 8 0 ++ [1])
def nmCheck : List Nat := [99, 104, 101, 99, 107]
def nmWrap : List Nat := [119, 114, 97, 112]
theorem baseK_length (o s n : List Nat) : (baseK o s n).length = 32 := macs_length _ _
theorem baseK_small (o s n : List Nat) : ∀ x ∈ baseK o s n, x < 256 := macs_small _ _
theorem text_check : textOf ⟨#[99, 104, 101, 99, 107]⟩ = nmCheck := by decide
theorem text_wrap : textOf ⟨#[119, 114, 97, 112]⟩ = nmWrap := by decide
/-- The wrapped key of a slot. -/
def wrapK (outer master salt : List Nat) : List Nat := wrapL (byt (wordsOf (byt (baseK outer salt nmWrap)))) master
/-- A slot's bytes. -/
def slotL (outer master salt : List Nat) : List Nat := salt ++ (baseK outer salt nmCheck ++ wrapK outer master salt)
theorem wrapK_length {outer master salt : List Nat} (h : master.length = 32) : (wrapK outer master salt).length = 40 := by unfold wrapK; rw [length_wrapL, h]
theorem slotL_length {outer master salt : List Nat} (hm : master.length = 32) (hs : salt.length = 32) : (slotL outer master salt).length = 104 := by
  unfold slotL
  rw [List.length_append, List.length_append, wrapK_length hm, baseK_length, hs]
/-- A key of one byte and noughts. -/
def key1 (n : Nat) : List Nat := n :: List.replicate 31 0
theorem alive_ne : (baseK (key1 1) (key1 3) nmCheck == baseK (key1 2) (key1 3) nmCheck) = false := by decide +kernel

end Go.Proofs.Ytecmagenlbnchaa
