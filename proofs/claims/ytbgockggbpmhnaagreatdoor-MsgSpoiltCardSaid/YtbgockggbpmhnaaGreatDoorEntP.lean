/-
  What an entry and a message are as bytes, and what bytes are as an entry: plain Lean, nothing of the program stands here.
  No condition.
-/
import Derived.Test.YtbgockggbpmhnaaGreatDoorPure3
namespace Go.Proofs.YtbgockggbpmhnaaGreatDoor
open Go Go.RowKit
namespace PK

/-- A number as laid. -/
def uB (u : Nat) : List UInt8 := 110 :: Lib.decDigits u ++ [59]
/-- Bytes as laid. -/
def bB (d : List UInt8) : List UInt8 := 98 :: Lib.decDigits d.length ++ [58] ++ d
/-- A truth as laid. -/
def tB (b : Bool) : List UInt8 := [if b then 121 else 122]
/-- An entry. -/
structure Ent where
  i : Int
  t : Int
  k : Int
  d : List UInt8
def encE (e : Ent) : List UInt8 := uB (u64 e.i) ++ uB (u64 e.t) ++ uB (u64 e.k) ++ bB e.d
theorem uB_len (u : Nat) (h : u < 18446744073709551616) : (uB u).length ≤ 22 := by
  have := dec_le u h
  unfold uB; simp; omega
theorem bB_len (d : List UInt8) (h : d.length < 18446744073709551616) : (bB d).length ≤ 22 + d.length := by
  have := dec_le d.length h
  unfold bB; simp; omega
theorem encE_len (e : Ent) (h : e.d.length < 18446744073709551616) : (encE e).length ≤ 88 + e.d.length := by
  have h1 := uB_len _ (u64_lt e.i)
  have h2 := uB_len _ (u64_lt e.t)
  have h3 := uB_len _ (u64_lt e.k)
  have h4 := bB_len e.d h
  unfold encE
  simp only [List.length_append]
  omega
/-- What is read of an entry: the three numbers and the bytes, what is left, the error. -/
def readE (l : List UInt8) : Ent × List UInt8 × Nat :=
  let a := uintP 1099511627776 l 0
  let b := uintP 1099511627776 a.2.1 a.2.2
  let c := uintP 2 b.2.1 b.2.2
  let d := runP 98 4096 c.2.1 c.2.2
  (⟨a.1, b.1, c.1, d.1⟩, d.2.1, d.2.2)
/-- The entry of bytes, if they are one. -/
def decE (l : List UInt8) : Option Ent :=
  let r := readE l
  if doneP r.2.1 r.2.2 ≠ 0 ∨ r.1.i < 1 ∨ r.1.t < 1 then none else some r.1
end PK
end Go.Proofs.YtbgockggbpmhnaaGreatDoor
