/-
  A disk, as data: what each act makes of it. Plain; no program.
-/
import Derived.Test.YthboeilpeggpoaaOctetSpec
namespace Go.Proofs.Ythboeilpeggpoaa
structure DD where
  cap : Int
  safe : Bytes
  loose : Bytes
  down : Bool
  fuse : Int
def rightB (d : DD) : Bool := decide (0 ≤ d.cap ∧ d.cap ≤ 1000000 ∧ ((d.safe.length + d.loose.length : Nat) : Int) ≤ d.cap)
def shortB (d : DD) : Bool := decide (d.safe.length ≤ 2000 ∧ d.loose.length ≤ 2000)
def sameB (a b : DD) : Bool := decide (a.cap = b.cap ∧ a.down = b.down ∧ max a.fuse (-1) = max b.fuse (-1) ∧ a.safe = b.safe ∧ a.loose = b.loose)
def newD (n : Int) : DD × Int := if n < 0 ∨ 1000000 < n then (⟨0, [], [], false, 0⟩, 1) else (⟨n, [], [], false, -1⟩, 0)
def actS (d : DD) : DD × Int := if d.down = true then (d, 11) else if d.fuse = 0 then (⟨d.cap, d.safe, d.loose, true, 0⟩, 11) else if 0 < d.fuse then (⟨d.cap, d.safe, d.loose, false, d.fuse - 1⟩, 0) else (d, 0)
def doS (d : DD) (long : Int) (f : DD → DD) : DD × Int := if (actS d).2 = 0 then (if d.cap < long then ((actS d).1, 9) else (f (actS d).1, 0)) else actS d
def addS (b : Bytes) (x : DD) : DD := ⟨x.cap, x.safe, x.loose ++ b, x.down, x.fuse⟩
def allS (x : DD) : DD := ⟨x.cap, x.safe ++ x.loose, [], x.down, x.fuse⟩
def otherS (b : Bytes) (x : DD) : DD := ⟨x.cap, b, [], x.down, x.fuse⟩
def longS (d : DD) : Nat := d.safe.length + d.loose.length
def writeS (d : DD) (b : Bytes) : DD × Int := doS d (longS d + b.length : Nat) (addS b)
def syncS (d : DD) : DD × Int := doS d (longS d : Nat) allS
def replaceS (d : DD) (b : Bytes) : DD × Int := doS d (b.length : Nat) (otherS b)
def readS (d : DD) : Bytes × Int := if d.down = true then ([], 11) else (d.safe ++ d.loose, 0)
def blowS (d : DD) (n : Int) : DD := if d.down = true then d else ⟨d.cap, d.safe, d.loose, d.down, n⟩
def keepN (n : Int) (k : Nat) : Nat := (min (max n 0) k).toNat
def crashS (d : DD) (n : Int) : DD := ⟨d.cap, d.safe ++ d.loose.take (keepN n d.loose.length), [], false, -1⟩
theorem sameB_refl (a : DD) : sameB a a = true := by simp [sameB]
theorem sameB_of {a b : DD} (h : a = b) : sameB a b = true := h ▸ sameB_refl a
end Go.Proofs.Ythboeilpeggpoaa
