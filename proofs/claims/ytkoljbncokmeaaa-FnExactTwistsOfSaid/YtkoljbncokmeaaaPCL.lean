import Derived.Test.YtkoljbncokmeaaaPCK
import Derived.Test.YtkoljbncokmeaaaPCE
import Derived.Test.YtkoljbncokmeaaaPCF
import Derived.Test.YtkoljbncokmeaaaPCD
import Derived.Test.YtkoljbncokmeaaaPCC
namespace Go.Proofs.Ytkoljbncokmeaaa
open Go Go.RowKit
set_option maxRecDepth 1000000
set_option linter.unusedSimpArgs false
set_option linter.unusedVariables false
set_option maxHeartbeats 1000000
def ent1 : List (List (Nat × Bool)) := [[(0, false)], [(0, false)], [(0, false)], [(0, false)], [(0, false)], [(0, false)]]
def ops1 : List (Nat × Nat) := [
  (0, 0), (0, 1)]
def sy10 : List (Nat × Nat) := [(0, 1)]
theorem sy10_ok : SymOk 1 6 ent1 sy10 := symC_ok (q := []) (er := 0) (ec := 0) (by decide +kernel)
def sy11 : List (Nat × Nat) := [(1, 2)]
theorem sy11_ok : SymOk 1 6 ent1 sy11 := symC_ok (q := []) (er := 0) (ec := 0) (by decide +kernel)
def sy12 : List (Nat × Nat) := [(2, 3)]
theorem sy12_ok : SymOk 1 6 ent1 sy12 := symC_ok (q := []) (er := 0) (ec := 0) (by decide +kernel)
def sy13 : List (Nat × Nat) := [(3, 4)]
theorem sy13_ok : SymOk 1 6 ent1 sy13 := symC_ok (q := []) (er := 0) (ec := 0) (by decide +kernel)
def sy14 : List (Nat × Nat) := [(4, 5)]
theorem sy14_ok : SymOk 1 6 ent1 sy14 := symC_ok (q := []) (er := 0) (ec := 0) (by decide +kernel)
def wrd1 : List (List (Nat × Nat)) := [sy10, sy11, sy10, sy12, sy11, sy10, sy13, sy12, sy11, sy10, sy14, sy13, sy12, sy11, sy10]
theorem wrd1_ok : ∀ p ∈ wrd1, SymOk 1 6 ent1 p := by
  intro p hp
  simp only [wrd1, List.mem_cons, List.not_mem_nil, or_false] at hp
  rcases hp with rfl | rfl | rfl | rfl | rfl | rfl | rfl | rfl | rfl | rfl | rfl | rfl | rfl | rfl | rfl
  · exact sy10_ok
  · exact sy11_ok
  · exact sy10_ok
  · exact sy12_ok
  · exact sy11_ok
  · exact sy10_ok
  · exact sy13_ok
  · exact sy12_ok
  · exact sy11_ok
  · exact sy10_ok
  · exact sy14_ok
  · exact sy13_ok
  · exact sy12_ok
  · exact sy11_ok
  · exact sy10_ok
theorem cnt1 : cntD 1 6 ent1 ops1 wrd1 = true := by decide +kernel
theorem det1 : ∀ R C : List Nat, R.Nodup → C.Nodup → (∀ r ∈ R, r < 1) → (∀ c ∈ C, c < 6) → R.length = C.length → (dtL (eM ent1) R C).natAbs ≤ 2 := cnt_all (by decide +kernel) wrd1_ok cnt1
def ent2 : List (List (Nat × Bool)) := [[(0, true), (1, false)], [(0, true), (2, false)], [(1, true), (2, false)], [(0, true), (3, false)], [(1, true), (3, false)], [(2, true), (3, false)], [(0, true), (4, false)], [(1, true), (4, false)], [(2, true), (4, false)], [(3, true), (4, false)], [(0, true), (5, false)], [(1, true), (5, false)], [(2, true), (5, false)], [(3, true), (5, false)], [(4, true), (5, false)]]
def ops2 : List (Nat × Nat) := [
  (0, 0), (0, 1), (0, 3), (0, 6), (0, 10), (1, 11), (2, 7), (0, 11), (1, 12), (1, 14), (2, 14), (2, 4), (0, 8), (0, 13), (0, 14), (2, 9), (2, 14), (1, 5), (2, 9), (0, 13), (2, 2), (2, 5), (0, 14)]
def sy20 : List (Nat × Nat) := [(1, 2), (3, 4), (6, 7), (10, 11)]
theorem sy20_ok : SymOk 6 15 ent2 sy20 := symC_ok (q := [(0, 1)]) (er := 0) (ec := 1) (by decide +kernel)
def sy21 : List (Nat × Nat) := [(0, 1), (4, 5), (7, 8), (11, 12)]
theorem sy21_ok : SymOk 6 15 ent2 sy21 := symC_ok (q := [(1, 2)]) (er := 0) (ec := 4) (by decide +kernel)
def sy22 : List (Nat × Nat) := [(1, 3), (2, 4), (8, 9), (12, 13)]
theorem sy22_ok : SymOk 6 15 ent2 sy22 := symC_ok (q := [(2, 3)]) (er := 0) (ec := 32) (by decide +kernel)
def sy23 : List (Nat × Nat) := [(3, 6), (4, 7), (5, 8), (13, 14)]
theorem sy23_ok : SymOk 6 15 ent2 sy23 := symC_ok (q := [(3, 4)]) (er := 0) (ec := 512) (by decide +kernel)
def sy24 : List (Nat × Nat) := [(6, 10), (7, 11), (8, 12), (9, 13)]
theorem sy24_ok : SymOk 6 15 ent2 sy24 := symC_ok (q := [(4, 5)]) (er := 0) (ec := 16384) (by decide +kernel)
def wrd2 : List (List (Nat × Nat)) := [sy20, sy21, sy20, sy22, sy21, sy20, sy23, sy22, sy21, sy20, sy24, sy23, sy22, sy21, sy20]
theorem wrd2_ok : ∀ p ∈ wrd2, SymOk 6 15 ent2 p := by
  intro p hp
  simp only [wrd2, List.mem_cons, List.not_mem_nil, or_false] at hp
  rcases hp with rfl | rfl | rfl | rfl | rfl | rfl | rfl | rfl | rfl | rfl | rfl | rfl | rfl | rfl | rfl
  · exact sy20_ok
  · exact sy21_ok
  · exact sy20_ok
  · exact sy22_ok
  · exact sy21_ok
  · exact sy20_ok
  · exact sy23_ok
  · exact sy22_ok
  · exact sy21_ok
  · exact sy20_ok
  · exact sy24_ok
  · exact sy23_ok
  · exact sy22_ok
  · exact sy21_ok
  · exact sy20_ok
theorem cnt2 : cntD 6 15 ent2 ops2 wrd2 = true := by decide +kernel
theorem det2 : ∀ R C : List Nat, R.Nodup → C.Nodup → (∀ r ∈ R, r < 6) → (∀ c ∈ C, c < 15) → R.length = C.length → (dtL (eM ent2) R C).natAbs ≤ 2 := cnt_all (by decide +kernel) wrd2_ok cnt2
def ent3 : List (List (Nat × Bool)) := [[(0, false), (1, true), (2, false)], [(0, false), (3, true), (4, false)], [(1, false), (3, true), (5, false)], [(2, false), (4, true), (5, false)], [(0, false), (6, true), (7, false)], [(1, false), (6, true), (8, false)], [(2, false), (7, true), (8, false)], [(3, false), (6, true), (9, false)], [(4, false), (7, true), (9, false)], [(5, false), (8, true), (9, false)], [(0, false), (10, true), (11, false)], [(1, false), (10, true), (12, false)], [(2, false), (11, true), (12, false)], [(3, false), (10, true), (13, false)], [(4, false), (11, true), (13, false)], [(5, false), (12, true), (13, false)], [(6, false), (10, true), (14, false)], [(7, false), (11, true), (14, false)], [(8, false), (12, true), (14, false)], [(9, false), (13, true), (14, false)]]
def ops3 : List (Nat × Nat) := [
  (0, 0), (0, 1), (0, 2), (0, 4), (0, 5), (0, 7), (0, 10), (0, 11), (0, 13), (0, 16), (1, 17), (2, 14), (0, 17), (1, 18), (1, 19), (2, 19), (2, 12), (0, 14), (0, 17), (1, 18), (2, 15), (0, 18), 
  (1, 19), (2, 19), (2, 15), (0, 18), (3, 12), (0, 14), (0, 17), (1, 18), (2, 19), (3, 8), (0, 10), (0, 11), (0, 14), (0, 18), (1, 19), (2, 15), (0, 19), (2, 19), (2, 12), (0, 13), (0, 16), (1, 17), 
  (1, 18), (2, 14), (0, 18), (1, 19), (2, 15), (0, 18), (1, 19), (2, 19), (2, 13), (0, 15), (0, 16), (1, 18), (1, 19), (2, 16), (1, 18), (0, 19), (2, 19), (2, 14), (0, 15), (0, 18), (1, 19), (2, 18), 
  (0, 19), (2, 19), (2, 15), (0, 18), (1, 19), (2, 19), (2, 11), (0, 12), (0, 14), (0, 17), (1, 19), (2, 19), (2, 13), (0, 14), (0, 16), (1, 17), (1, 18), (2, 16), (1, 17), (0, 18), (1, 19), (2, 18), 
  (1, 19), (2, 14), (0, 15), (0, 17), (1, 18), (1, 19), (2, 17), (1, 18), (0, 19), (2, 19), (2, 15), (0, 18), (1, 19), (2, 19), (2, 12), (0, 13), (0, 14), (0, 16), (1, 17), (1, 18), (1, 19), (2, 15), 
  (0, 16), (1, 17), (1, 18), (1, 19), (2, 16), (1, 17), (0, 19), (2, 18), (0, 19), (2, 19), (2, 14), (0, 17), (1, 18), (1, 19), (2, 15), (0, 18), (1, 19), (2, 19), (2, 13), (0, 14), (0, 15), (0, 17), 
  (1, 18), (2, 16), (0, 18), (2, 18), (0, 19), (2, 19), (2, 15), (0, 16), (1, 17), (0, 18), (1, 19), (2, 18), (1, 19), (2, 16), (1, 17), (0, 18), (0, 19), (2, 19), (2, 18), (0, 19), (2, 19), (2, 14), 
  (0, 15), (0, 17), (1, 18), (1, 19), (2, 17), (1, 18), (0, 19), (2, 19), (2, 15), (0, 18), (1, 19), (2, 19), (2, 10), (0, 11), (0, 19), (2, 12), (0, 15), (0, 18), (0, 19), (2, 19), (2, 19), (2, 13), 
  (0, 16), (1, 17), (0, 18), (0, 19), (3, 18), (0, 19), (3, 14), (0, 15), (0, 17), (1, 18), (0, 19), (2, 19), (2, 17), (1, 18), (0, 19), (2, 19), (2, 15), (0, 18), (0, 19), (2, 19), (2, 19), (2, 12), 
  (0, 13), (0, 14), (0, 16), (0, 19), (2, 17), (0, 19), (2, 18), (0, 19), (2, 19), (2, 16), (0, 19), (2, 17), (0, 19), (2, 19), (2, 14), (0, 17), (0, 19), (2, 18), (0, 19), (2, 19), (2, 19), (2, 13), 
  (0, 14), (0, 16), (0, 18), (0, 19), (2, 19), (2, 17), (0, 18), (0, 19), (2, 19), (2, 18), (0, 19), (2, 19), (2, 16), (0, 19), (2, 17), (0, 18), (0, 19), (2, 19), (2, 19), (2, 14), (0, 15), (0, 17), 
  (0, 19), (2, 19), (2, 17), (0, 19), (2, 18), (0, 19), (2, 19), (2, 19), (2, 6), (0, 9), (0, 10), (0, 14), (0, 15), (0, 16), (1, 18), (2, 16), (0, 19), (2, 18), (0, 19), (2, 19), (2, 15), (0, 18), 
  (1, 19), (2, 19), (2, 11), (0, 12), (0, 14), (0, 16), (0, 19), (2, 19), (2, 19), (2, 14), (0, 15), (0, 16), (1, 17), (1, 19), (2, 16), (0, 19), (2, 17), (0, 18), (2, 18), (0, 19), (2, 19), (2, 15), 
  (0, 16), (1, 17), (0, 19), (2, 19), (2, 16), (0, 19), (2, 17), (0, 18), (1, 19), (2, 18), (0, 19), (2, 19), (2, 13), (0, 14), (0, 16), (0, 18), (2, 17), (0, 18), (2, 18), (0, 19), (2, 19), (2, 15), 
  (0, 16), (1, 17), (0, 18), (2, 18), (2, 16), (0, 18), (2, 17), (0, 19), (2, 18), (0, 19), (2, 19), (2, 14), (0, 15), (0, 16), (0, 18), (1, 19), (2, 18), (1, 19), (2, 16), (0, 19), (2, 18), (0, 19), 
  (2, 19), (2, 15), (0, 18), (1, 19), (2, 19), (2, 10), (0, 14), (0, 16), (1, 18), (0, 19), (3, 15), (0, 18), (0, 19), (2, 19), (2, 19), (2, 11), (0, 12), (0, 19), (2, 14), (0, 16), (0, 19), (2, 17), 
  (0, 19), (2, 18), (0, 19), (2, 19), (2, 15), (0, 16), (0, 19), (2, 17), (0, 19), (2, 18), (0, 19), (2, 19), (2, 16), (0, 19), (2, 17), (0, 19), (2, 18), (0, 19), (2, 19), (2, 13), (0, 15), (0, 16), 
  (1, 17), (0, 18), (0, 19), (2, 19), (2, 18), (2, 16), (0, 18), (0, 19), (2, 19), (2, 17), (0, 19), (2, 18), (0, 19), (2, 19), (2, 14), (0, 15), (0, 16), (0, 18), (0, 19), (2, 19), (2, 18), (0, 19), 
  (2, 19), (2, 16), (0, 19), (2, 18), (0, 19), (2, 19), (2, 15), (0, 18), (0, 19), (2, 19), (2, 19), (2, 9), (0, 10), (0, 15), (0, 16), (0, 18), (2, 17), (0, 18), (2, 18), (2, 16), (0, 18), (2, 17), 
  (0, 18), (2, 18), (0, 19), (3, 11), (0, 14), (0, 16), (0, 17), (1, 19), (2, 17), (0, 18), (1, 19), (2, 19), (2, 16), (0, 17), (0, 19), (2, 18), (1, 19), (2, 17), (0, 18), (0, 19), (2, 19), (2, 18), 
  (0, 19), (2, 19), (2, 12), (0, 14), (0, 16), (0, 17), (1, 18), (2, 17), (0, 18), (2, 18), (2, 15), (0, 16), (0, 17), (0, 19), (2, 19), (2, 17), (0, 19), (2, 18), (1, 19), (2, 16), (0, 17), (1, 18), 
  (0, 19), (2, 19), (2, 17), (0, 18), (1, 19), (2, 18), (0, 19), (2, 19), (2, 15), (0, 16), (0, 17), (0, 18), (2, 18), (2, 17), (0, 18), (2, 18), (2, 16), (0, 17), (1, 18), (0, 19), (3, 17), (0, 18), 
  (0, 19), (3, 18), (0, 19), (3, 10), (0, 16), (1, 17), (1, 18), (0, 19), (3, 11), (0, 16), (0, 17), (1, 19), (2, 17), (0, 18), (0, 19), (2, 19), (2, 19), (2, 12), (0, 14), (0, 16), (0, 17), (1, 18), 
  (0, 19), (3, 17), (0, 18), (2, 18), (0, 19), (3, 15), (0, 16), (0, 17), (1, 18), (1, 19), (2, 17), (0, 18), (1, 19), (2, 18), (0, 19), (2, 19), (2, 16), (0, 17), (1, 18), (0, 19), (2, 19), (2, 17), 
  (0, 18), (1, 19), (2, 18), (0, 19), (2, 19), (2, 15), (0, 16), (0, 17), (1, 18), (2, 17), (0, 18), (0, 19), (3, 18), (0, 19), (3, 16), (0, 17), (1, 18), (0, 19), (3, 17), (0, 18), (0, 19), (3, 18), 
  (0, 19), (3, 6), (0, 8), (0, 12), (0, 14), (0, 16), (2, 15), (0, 16), (0, 19), (2, 19), (2, 16), (0, 19), (2, 19), (2, 15), (0, 16), (0, 17), (1, 18), (2, 17), (1, 18), (0, 19), (3, 16), (0, 17), 
  (1, 18), (0, 19), (3, 17), (1, 18), (0, 19), (2, 9), (2, 12), (0, 16), (0, 19), (2, 19), (2, 14), (0, 16), (0, 17), (1, 18), (0, 19), (3, 17), (0, 18), (2, 18), (0, 19), (3, 16), (0, 17), (0, 19), 
  (2, 19), (2, 17), (0, 18), (1, 19), (2, 19), (2, 16), (0, 17), (0, 18), (0, 19), (4, 17), (0, 18), (0, 19), (3, 3), (2, 4), (0, 9), (0, 10), (0, 15), (2, 11), (0, 13), (0, 16), (1, 17), (0, 18), 
  (2, 18), (2, 14), (0, 15), (1, 18), (2, 15), (1, 19), (2, 15), (2, 10), (1, 11), (0, 13), (0, 16), (1, 17), (0, 18), (0, 19), (3, 18), (0, 19), (3, 14), (0, 15), (0, 18), (2, 18), (0, 19), (3, 15), 
  (0, 18), (1, 19), (2, 19), (2, 15), (0, 18), (3, 5), (0, 7), (0, 12), (0, 14), (0, 18), (0, 19), (3, 15), (0, 17), (0, 19), (2, 19), (2, 19), (2, 15), (0, 17), (3, 8), (0, 9), (0, 12), (0, 13), 
  (0, 15), (0, 16), (0, 17), (3, 16), (2, 15), (3, 12), (0, 13), (0, 16), (2, 15), (0, 16), (0, 19), (2, 19), (2, 17), (1, 19), (2, 15), (0, 16), (0, 17), (2, 18), (2, 16), (0, 17), (1, 19), (2, 18), 
  (0, 19), (3, 12), (0, 19), (2, 13), (0, 16), (1, 17), (1, 18), (2, 14), (0, 18), (0, 19), (3, 15), (0, 17), (0, 19), (2, 19), (2, 19), (2, 9), (0, 15), (0, 16), (0, 17), (3, 16), (1, 18), (2, 16), 
  (1, 18), (0, 19), (3, 7), (0, 14), (0, 18), (3, 19)]
def sy30 : List (Nat × Nat) := [(2, 3), (5, 6), (7, 8), (11, 12), (13, 14), (16, 17)]
theorem sy30_ok : SymOk 15 20 ent3 sy30 := symC_ok (q := [(1, 2), (3, 4), (6, 7), (10, 11)]) (er := 1) (ec := 1043) (by decide +kernel)
def sy31 : List (Nat × Nat) := [(1, 2), (4, 5), (8, 9), (10, 11), (14, 15), (17, 18)]
theorem sy31_ok : SymOk 15 20 ent3 sy31 := symC_ok (q := [(0, 1), (4, 5), (7, 8), (11, 12)]) (er := 4) (ec := 4169) (by decide +kernel)
def sy32 : List (Nat × Nat) := [(0, 1), (5, 7), (6, 8), (11, 13), (12, 14), (18, 19)]
theorem sy32_ok : SymOk 15 20 ent3 sy32 := symC_ok (q := [(1, 3), (2, 4), (8, 9), (12, 13)]) (er := 32) (ec := 33292) (by decide +kernel)
def sy33 : List (Nat × Nat) := [(1, 4), (2, 5), (3, 6), (13, 16), (14, 17), (15, 18)]
theorem sy33_ok : SymOk 15 20 ent3 sy33 := symC_ok (q := [(3, 6), (4, 7), (5, 8), (13, 14)]) (er := 512) (ec := 525184) (by decide +kernel)
def sy34 : List (Nat × Nat) := [(4, 10), (5, 11), (6, 12), (7, 13), (8, 14), (9, 15)]
theorem sy34_ok : SymOk 15 20 ent3 sy34 := symC_ok (q := [(6, 10), (7, 11), (8, 12), (9, 13)]) (er := 16384) (ec := 983040) (by decide +kernel)
def wrd3 : List (List (Nat × Nat)) := [sy30, sy31, sy30, sy32, sy31, sy30, sy33, sy32, sy31, sy30, sy34, sy33, sy32, sy31, sy30]
theorem wrd3_ok : ∀ p ∈ wrd3, SymOk 15 20 ent3 p := by
  intro p hp
  simp only [wrd3, List.mem_cons, List.not_mem_nil, or_false] at hp
  rcases hp with rfl | rfl | rfl | rfl | rfl | rfl | rfl | rfl | rfl | rfl | rfl | rfl | rfl | rfl | rfl
  · exact sy30_ok
  · exact sy31_ok
  · exact sy30_ok
  · exact sy32_ok
  · exact sy31_ok
  · exact sy30_ok
  · exact sy33_ok
  · exact sy32_ok
  · exact sy31_ok
  · exact sy30_ok
  · exact sy34_ok
  · exact sy33_ok
  · exact sy32_ok
  · exact sy31_ok
  · exact sy30_ok
theorem cnt3 : cntD 15 20 ent3 ops3 wrd3 = true := by decide +kernel
theorem det3 : ∀ R C : List Nat, R.Nodup → C.Nodup → (∀ r ∈ R, r < 15) → (∀ c ∈ C, c < 20) → R.length = C.length → (dtL (eM ent3) R C).natAbs ≤ 2 := cnt_all (by decide +kernel) wrd3_ok cnt3
def ent4 : List (List (Nat × Bool)) := [[(0, true), (1, false), (2, true), (3, false)], [(0, true), (4, false), (5, true), (6, false)], [(1, true), (4, false), (7, true), (8, false)], [(2, true), (5, false), (7, true), (9, false)], [(3, true), (6, false), (8, true), (9, false)], [(0, true), (10, false), (11, true), (12, false)], [(1, true), (10, false), (13, true), (14, false)], [(2, true), (11, false), (13, true), (15, false)], [(3, true), (12, false), (14, true), (15, false)], [(4, true), (10, false), (16, true), (17, false)], [(5, true), (11, false), (16, true), (18, false)], [(6, true), (12, false), (17, true), (18, false)], [(7, true), (13, false), (16, true), (19, false)], [(8, true), (14, false), (17, true), (19, false)], [(9, true), (15, false), (18, true), (19, false)]]
def ops4 : List (Nat × Nat) := [
  (0, 0), (0, 1), (0, 2), (0, 3), (0, 5), (0, 6), (0, 7), (0, 9), (0, 10), (0, 12), (1, 13), (2, 11), (0, 13), (1, 14), (2, 14), (2, 11), (0, 13), (3, 8), (0, 9), (0, 14), (2, 10), (0, 11), (0, 12), 
  (2, 12), (1, 13), (0, 14), (2, 14), (2, 14), (2, 9), (0, 14), (2, 10), (0, 12), (1, 13), (0, 14), (3, 11), (0, 13), (0, 14), (2, 14), (2, 14), (2, 8), (0, 11), (0, 12), (0, 13), (2, 13), (2, 12), 
  (0, 13), (2, 13), (0, 14), (3, 12), (1, 13), (0, 14), (3, 8), (0, 11), (0, 13), (0, 14), (4, 4), (2, 5), (0, 6), (0, 9), (0, 14), (2, 10), (0, 12), (0, 14), (2, 13), (0, 14), (2, 14), (2, 14), 
  (2, 7), (0, 11), (0, 12), (0, 13), (0, 14), (4, 12), (0, 13), (0, 14), (3, 13), (0, 14), (3, 12), (0, 13), (0, 14), (2, 14), (2, 14), (2, 7), (0, 8), (0, 10), (0, 11), (0, 12), (0, 13), (3, 13), 
  (3, 10), (0, 12), (1, 13), (0, 14), (2, 14), (2, 11), (0, 14), (2, 14), (2, 14), (2, 5), (0, 12), (0, 13), (0, 14), (4, 6), (0, 9), (0, 14), (2, 10), (0, 12), (1, 13), (0, 14), (3, 14), (2, 12), 
  (0, 13), (3, 9), (0, 14)]
def sy40 : List (Nat × Nat) := [(3, 4), (7, 8), (10, 11), (12, 13)]
theorem sy40_ok : SymOk 20 15 ent4 sy40 := symC_ok (q := [(2, 3), (5, 6), (7, 8), (11, 12), (13, 14), (16, 17)]) (er := 1043) (ec := 615) (by decide +kernel)
def sy41 : List (Nat × Nat) := [(2, 3), (6, 7), (9, 10), (13, 14)]
theorem sy41_ok : SymOk 20 15 ent4 sy41 := symC_ok (q := [(1, 2), (4, 5), (8, 9), (10, 11), (14, 15), (17, 18)]) (er := 4169) (ec := 2355) (by decide +kernel)
def sy42 : List (Nat × Nat) := [(1, 2), (5, 6), (10, 12), (11, 13)]
theorem sy42_ok : SymOk 20 15 ent4 sy42 := symC_ok (q := [(0, 1), (5, 7), (6, 8), (11, 13), (12, 14), (18, 19)]) (er := 33292) (ec := 16793) (by decide +kernel)
def sy43 : List (Nat × Nat) := [(0, 1), (6, 9), (7, 10), (8, 11)]
theorem sy43_ok : SymOk 20 15 ent4 sy43 := symC_ok (q := [(1, 4), (2, 5), (3, 6), (13, 16), (14, 17), (15, 18)]) (er := 525184) (ec := 28700) (by decide +kernel)
def sy44 : List (Nat × Nat) := [(1, 5), (2, 6), (3, 7), (4, 8)]
theorem sy44_ok : SymOk 20 15 ent4 sy44 := symC_ok (q := [(4, 10), (5, 11), (6, 12), (7, 13), (8, 14), (9, 15)]) (er := 983040) (ec := 32256) (by decide +kernel)
def wrd4 : List (List (Nat × Nat)) := [sy40, sy41, sy40, sy42, sy41, sy40, sy43, sy42, sy41, sy40, sy44, sy43, sy42, sy41, sy40]
theorem wrd4_ok : ∀ p ∈ wrd4, SymOk 20 15 ent4 p := by
  intro p hp
  simp only [wrd4, List.mem_cons, List.not_mem_nil, or_false] at hp
  rcases hp with rfl | rfl | rfl | rfl | rfl | rfl | rfl | rfl | rfl | rfl | rfl | rfl | rfl | rfl | rfl
  · exact sy40_ok
  · exact sy41_ok
  · exact sy40_ok
  · exact sy42_ok
  · exact sy41_ok
  · exact sy40_ok
  · exact sy43_ok
  · exact sy42_ok
  · exact sy41_ok
  · exact sy40_ok
  · exact sy44_ok
  · exact sy43_ok
  · exact sy42_ok
  · exact sy41_ok
  · exact sy40_ok
theorem cnt4 : cntD 20 15 ent4 ops4 wrd4 = true := by decide +kernel
theorem det4 : ∀ R C : List Nat, R.Nodup → C.Nodup → (∀ r ∈ R, r < 20) → (∀ c ∈ C, c < 15) → R.length = C.length → (dtL (eM ent4) R C).natAbs ≤ 2 := cnt_all (by decide +kernel) wrd4_ok cnt4
def ent5 : List (List (Nat × Bool)) := [[(0, false), (1, true), (2, false), (3, true), (4, false)], [(0, false), (5, true), (6, false), (7, true), (8, false)], [(1, false), (5, true), (9, false), (10, true), (11, false)], [(2, false), (6, true), (9, false), (12, true), (13, false)], [(3, false), (7, true), (10, false), (12, true), (14, false)], [(4, false), (8, true), (11, false), (13, true), (14, false)]]
def ops5 : List (Nat × Nat) := [
  (0, 0), (0, 1), (0, 2), (0, 3), (0, 4), (0, 5)]
def sy50 : List (Nat × Nat) := [(4, 5)]
theorem sy50_ok : SymOk 15 6 ent5 sy50 := symC_ok (q := [(3, 4), (7, 8), (10, 11), (12, 13)]) (er := 615) (ec := 15) (by decide +kernel)
def sy51 : List (Nat × Nat) := [(3, 4)]
theorem sy51_ok : SymOk 15 6 ent5 sy51 := symC_ok (q := [(2, 3), (6, 7), (9, 10), (13, 14)]) (er := 2355) (ec := 39) (by decide +kernel)
def sy52 : List (Nat × Nat) := [(2, 3)]
theorem sy52_ok : SymOk 15 6 ent5 sy52 := symC_ok (q := [(1, 2), (5, 6), (10, 12), (11, 13)]) (er := 16793) (ec := 51) (by decide +kernel)
def sy53 : List (Nat × Nat) := [(1, 2)]
theorem sy53_ok : SymOk 15 6 ent5 sy53 := symC_ok (q := [(0, 1), (6, 9), (7, 10), (8, 11)]) (er := 28700) (ec := 57) (by decide +kernel)
def sy54 : List (Nat × Nat) := [(0, 1)]
theorem sy54_ok : SymOk 15 6 ent5 sy54 := symC_ok (q := [(1, 5), (2, 6), (3, 7), (4, 8)]) (er := 32256) (ec := 60) (by decide +kernel)
def wrd5 : List (List (Nat × Nat)) := [sy50, sy51, sy50, sy52, sy51, sy50, sy53, sy52, sy51, sy50, sy54, sy53, sy52, sy51, sy50]
theorem wrd5_ok : ∀ p ∈ wrd5, SymOk 15 6 ent5 p := by
  intro p hp
  simp only [wrd5, List.mem_cons, List.not_mem_nil, or_false] at hp
  rcases hp with rfl | rfl | rfl | rfl | rfl | rfl | rfl | rfl | rfl | rfl | rfl | rfl | rfl | rfl | rfl
  · exact sy50_ok
  · exact sy51_ok
  · exact sy50_ok
  · exact sy52_ok
  · exact sy51_ok
  · exact sy50_ok
  · exact sy53_ok
  · exact sy52_ok
  · exact sy51_ok
  · exact sy50_ok
  · exact sy54_ok
  · exact sy53_ok
  · exact sy52_ok
  · exact sy51_ok
  · exact sy50_ok
theorem cnt5 : cntD 15 6 ent5 ops5 wrd5 = true := by decide +kernel
theorem det5 : ∀ R C : List Nat, R.Nodup → C.Nodup → (∀ r ∈ R, r < 15) → (∀ c ∈ C, c < 6) → R.length = C.length → (dtL (eM ent5) R C).natAbs ≤ 2 := cnt_all (by decide +kernel) wrd5_ok cnt5
def ent6 : List (List (Nat × Bool)) := [[(0, true), (1, false), (2, true), (3, false), (4, true), (5, false)]]
def ops6 : List (Nat × Nat) := [
  (0, 0)]
def sy60 : List (Nat × Nat) := []
theorem sy60_ok : SymOk 6 1 ent6 sy60 := symC_ok (q := [(4, 5)]) (er := 15) (ec := 1) (by decide +kernel)
def sy61 : List (Nat × Nat) := []
theorem sy61_ok : SymOk 6 1 ent6 sy61 := symC_ok (q := [(3, 4)]) (er := 39) (ec := 1) (by decide +kernel)
def sy62 : List (Nat × Nat) := []
theorem sy62_ok : SymOk 6 1 ent6 sy62 := symC_ok (q := [(2, 3)]) (er := 51) (ec := 1) (by decide +kernel)
def sy63 : List (Nat × Nat) := []
theorem sy63_ok : SymOk 6 1 ent6 sy63 := symC_ok (q := [(1, 2)]) (er := 57) (ec := 1) (by decide +kernel)
def sy64 : List (Nat × Nat) := []
theorem sy64_ok : SymOk 6 1 ent6 sy64 := symC_ok (q := [(0, 1)]) (er := 60) (ec := 1) (by decide +kernel)
def wrd6 : List (List (Nat × Nat)) := [sy60, sy61, sy60, sy62, sy61, sy60, sy63, sy62, sy61, sy60, sy64, sy63, sy62, sy61, sy60]
theorem wrd6_ok : ∀ p ∈ wrd6, SymOk 6 1 ent6 p := by
  intro p hp
  simp only [wrd6, List.mem_cons, List.not_mem_nil, or_false] at hp
  rcases hp with rfl | rfl | rfl | rfl | rfl | rfl | rfl | rfl | rfl | rfl | rfl | rfl | rfl | rfl | rfl
  · exact sy60_ok
  · exact sy61_ok
  · exact sy60_ok
  · exact sy62_ok
  · exact sy61_ok
  · exact sy60_ok
  · exact sy63_ok
  · exact sy62_ok
  · exact sy61_ok
  · exact sy60_ok
  · exact sy64_ok
  · exact sy63_ok
  · exact sy62_ok
  · exact sy61_ok
  · exact sy60_ok
theorem cnt6 : cntD 6 1 ent6 ops6 wrd6 = true := by decide +kernel
theorem det6 : ∀ R C : List Nat, R.Nodup → C.Nodup → (∀ r ∈ R, r < 6) → (∀ c ∈ C, c < 1) → R.length = C.length → (dtL (eM ent6) R C).natAbs ≤ 2 := cnt_all (by decide +kernel) wrd6_ok cnt6
end Go.Proofs.Ytkoljbncokmeaaa
namespace Go.Proofs.Ytkoljbncokmeaaa
open Go Go.RowKit
set_option maxRecDepth 1000000
set_option linter.unusedSimpArgs false
set_option linter.unusedVariables false
set_option maxHeartbeats 1000000
def sumN : Nat → (Nat → Int) → Int
  | 0, _ => 0
  | n + 1, f => sumN n f + f n
theorem sz_nat {x : Nat} (hx : x < 64) : sz (x : Int) = (pcF 6 x : Nat) := by
  rw [sz, Int.toNat_natCast, pc6 x hx]
end Go.Proofs.Ytkoljbncokmeaaa
namespace Go.Proofs.Ytkoljbncokmeaaa
open Go Go.RowKit
set_option maxRecDepth 1000000
set_option linter.unusedSimpArgs false
set_option linter.unusedVariables false
set_option maxHeartbeats 1000000
end Go.Proofs.Ytkoljbncokmeaaa
namespace Go.Proofs.Ytkoljbncokmeaaa
open Go Go.RowKit
set_option maxRecDepth 1000000
set_option linter.unusedSimpArgs false
set_option linter.unusedVariables false
set_option maxHeartbeats 1000000
end Go.Proofs.Ytkoljbncokmeaaa
namespace Go.Proofs.Ytkoljbncokmeaaa
open Go Go.RowKit
set_option maxRecDepth 1000000
set_option linter.unusedSimpArgs false
set_option linter.unusedVariables false
set_option maxHeartbeats 1000000
/-- A row, applied to numbers. -/
def rv (w : Nat) (r : List Int) (x : Nat → Int) : Int := sumN w fun j => at0 r j * x j
def sol (p : Int) (w : Nat) (M : List (List Int)) (x : Nat → Int) : Prop := ∀ i, i < M.length → p ∣ rv w (atR M i) x
section piv
variable {p : Int} {w : Nat} {M : List (List Int)} {d a j : Nat}
end piv
structure rrI (p : Int) (w : Nat) (M0 : List (List Int)) (j : Nat) (x : List (List Int) × List Int) : Prop where
  base : redI p w M0 j x
  sl : ∀ y, sol p w x.1 y ↔ sol p w M0 y
  one : ∀ q, q < x.2.length → at0 (atR x.1 q) (at0 x.2 q).toNat = 1
  zer : ∀ q, q < x.2.length → ∀ i, i < x.1.length → i ≠ q → at0 (atR x.1 i) (at0 x.2 q).toNat = 0
  low : ∀ i, x.2.length ≤ i → i < x.1.length → ∀ k, k < j → at0 (atR x.1 i) k = 0
end Go.Proofs.Ytkoljbncokmeaaa
namespace Go.Proofs.Ytkoljbncokmeaaa
open Go Go.RowKit
set_option maxRecDepth 1000000
set_option linter.unusedSimpArgs false
set_option linter.unusedVariables false
set_option maxHeartbeats 1000000
end Go.Proofs.Ytkoljbncokmeaaa
namespace Go.Proofs.Ytkoljbncokmeaaa
open Go Go.RowKit
set_option maxRecDepth 1000000
set_option linter.unusedSimpArgs false
set_option linter.unusedVariables false
set_option maxHeartbeats 1000000
/-- The sets of a size, and their places. -/
def ffN (k : Nat) : List Nat := (List.range 64).filter fun x => pcF 6 x == k
def sgN (x y : Nat) : Int := if x - (x &&& y) = 0 then 1 - 2 * ((pcF 6 (y &&& (y - (y &&& x) - 1)) % 2 : Nat) : Int) else 0
def bchk (k n m : Nat) (E : List (List (Nat × Bool))) : Bool :=
  Nat.beq (ffN (k - 1)).length n && (Nat.beq (ffN k).length m && (ffN (k - 1)).all fun x => (ffN k).all fun y => decide (1 ≤ y - (y &&& x)) && (sgN x y == eM E ((ffN (k - 1)).idxOf x) ((ffN k).idxOf y)))
theorem bchk1 : bchk 1 1 6 ent1 = true := by decide +kernel
theorem bchk2 : bchk 2 6 15 ent2 = true := by decide +kernel
theorem bchk3 : bchk 3 15 20 ent3 = true := by decide +kernel
theorem bchk4 : bchk 4 20 15 ent4 = true := by decide +kernel
theorem bchk5 : bchk 5 15 6 ent5 = true := by decide +kernel
theorem bchk6 : bchk 6 6 1 ent6 = true := by decide +kernel
theorem mem_ffN {k x : Nat} : x ∈ ffN k ↔ x < 64 ∧ pcF 6 x = k := by
  unfold ffN
  rw [List.mem_filter, List.mem_range, beq_iff_eq]
theorem sgZ_nat {x y : Nat} (hx : x < 64) (hy : y < 64) (h1 : 1 ≤ y - (y &&& x)) : sgnZ (x : Int) (y : Int) = sgN x y := by
  unfold sgN
  by_cases h : x - (x &&& y) = 0
  · have hs : subS (x : Int) (y : Int) := by
      unfold subS
      rw [bnot_nat0 x y hx hy, h]; rfl
    rw [sgnZ_yes hs, if_pos h, bnot_nat0 y x hy hx]
    have e : (((y - (y &&& x) : Nat) : Int) - 1) = ((y - (y &&& x) - 1 : Nat) : Int) := by omega
    rw [e, band_nat0 y _ hy (by omega), sz_nat (by have := Nat.and_le_left (n := y) (m := y - (y &&& x) - 1); omega)]
    omega
  · have hs : ¬ subS (x : Int) (y : Int) := by
      unfold subS
      rw [bnot_nat0 x y hx hy]
      omega
    rw [sgnZ_no hs, if_neg h]
theorem idx_inj {l : List Nat} {x y : Nat} (hx : x ∈ l) (hy : y ∈ l) (h : l.idxOf x = l.idxOf y) : x = y := by
  have h1 := List.getElem_idxOf (List.idxOf_lt_length_iff.2 hx)
  have h2 := List.getElem_idxOf (List.idxOf_lt_length_iff.2 hy)
  have h3 : l[l.idxOf x]'(List.idxOf_lt_length_iff.2 hx) = l[l.idxOf y]'(List.idxOf_lt_length_iff.2 hy) := by congr 1
  rw [← h1, ← h2, h3]
theorem nm_inj {g : Nat → Nat} {l : List Nat} (h : ∀ a ∈ l, ∀ b ∈ l, g a = g b → a = b) (hn : l.Nodup) : (l.map g).Nodup := nodup_map h hn
theorem at0_inj {l : List Int} (hn : l.Nodup) {a b : Nat} (ha : a < l.length) (hb : b < l.length) (e : at0 l a = at0 l b) : a = b := by
  rw [at0_eq ha, at0_eq hb] at e
  rw [List.nodup_iff_pairwise_ne, List.pairwise_iff_getElem] at hn
  rcases Nat.lt_trichotomy a b with h1 | h1 | h1
  · exact absurd e (hn a b ha hb h1)
  · exact h1
  · exact absurd e.symm (hn b a hb ha h1)
theorem bor_ent {R C : List Int} {i j : Nat} (hi : i < R.length) (hj : j < C.length) : ent (sgnM R C) i j = sgnZ (at0 R i) (at0 C j) := by
  unfold ent
  rw [sgnM_at hi, ← rowF_map, rowF_at hj]
theorem bor_gen {k n m : Nat} {E : List (List (Nat × Bool))} (hc : bchk k n m E = true) (hd : ∀ R C : List Nat, R.Nodup → C.Nodup → (∀ r ∈ R, r < n) → (∀ c ∈ C, c < m) → R.length = C.length → (dtL (eM E) R C).natAbs ≤ 2) (hk : 1 ≤ k)
    {R C : List Int} (hR : R.Nodup) (hC : C.Nodup) (h1 : ∀ r ∈ R, isS r ∧ sz r = (k : Int) - 1) (h2 : ∀ s ∈ C, isS s ∧ sz s = k) : mB 2 R.length C.length (ent (sgnM R C)) := by
  unfold bchk at hc
  simp only [Bool.and_eq_true, List.all_eq_true, decide_eq_true_eq, Nat.beq_eq, beq_iff_eq] at hc
  obtain ⟨c1, c2, c3⟩ := hc
  have m1 : ∀ a, a < R.length → (at0 R a).toNat ∈ ffN (k - 1) ∧ at0 R a = ((at0 R a).toNat : Int) := fun a ha => by
    obtain ⟨g1, g2⟩ := h1 _ (getD_mem' ha)
    have e : at0 R a = ((at0 R a).toNat : Int) := by have := g1.1; omega
    refine ⟨mem_ffN.2 ⟨by have := g1.2; omega, ?_⟩, e⟩
    rw [e, sz_nat (by have := g1.2; omega)] at g2
    omega
  have m2 : ∀ a, a < C.length → (at0 C a).toNat ∈ ffN k ∧ at0 C a = ((at0 C a).toNat : Int) := fun a ha => by
    obtain ⟨g1, g2⟩ := h2 _ (getD_mem' ha)
    have e : at0 C a = ((at0 C a).toNat : Int) := by have := g1.1; omega
    refine ⟨mem_ffN.2 ⟨by have := g1.2; omega, ?_⟩, e⟩
    rw [e, sz_nat (by have := g1.2; omega)] at g2
    omega
  intro Rl Cl hl hRn hCn hRb hCb
  have e1 : dtL (ent (sgnM R C)) Rl Cl = dtL (fun a b => eM E ((ffN (k - 1)).idxOf (at0 R a).toNat) ((ffN k).idxOf (at0 C b).toNat)) Rl Cl :=
    dtL_congr (n := R.length) (w := C.length) (fun a b ha hb => by
      obtain ⟨p1, p2⟩ := m1 a ha
      obtain ⟨q1, q2⟩ := m2 b hb
      obtain ⟨x1, x2⟩ := c3 _ p1 _ q1
      rw [bor_ent ha hb, p2, q2, sgZ_nat (mem_ffN.1 p1).1 (mem_ffN.1 q1).1 x1, x2]
      simp only [Int.toNat_natCast]) (by omega) hRb hCb
  rw [e1, dtL_map (f := eM E) (R := Rl) (C := Cl) (fun a => (ffN (k - 1)).idxOf (at0 R a).toNat) (fun b => (ffN k).idxOf (at0 C b).toNat) (by omega)]
  refine hd _ _ (nm_inj (fun a ha b hb e => ?_) hRn) (nm_inj (fun a ha b hb e => ?_) hCn) (fun r hm => ?_) (fun c hm => ?_) (by simpa using hl)
  · have p := m1 a (hRb a ha)
    have q := m1 b (hRb b hb)
    have h3 := idx_inj p.1 q.1 e
    exact at0_inj hR (hRb a ha) (hRb b hb) (by rw [p.2, q.2, h3])
  · have p := m2 a (hCb a ha)
    have q := m2 b (hCb b hb)
    have h3 := idx_inj p.1 q.1 e
    exact at0_inj hC (hCb a ha) (hCb b hb) (by rw [p.2, q.2, h3])
  · obtain ⟨a, ha, e⟩ := List.mem_map.1 hm
    rw [← e, ← c1]
    exact List.idxOf_lt_length_iff.2 (m1 a (hRb a ha)).1
  · obtain ⟨a, ha, e⟩ := List.mem_map.1 hm
    rw [← e, ← c2]
    exact List.idxOf_lt_length_iff.2 (m2 a (hCb a ha)).1
theorem bor_mB {k : Nat} (hk : 1 ≤ k ∧ k ≤ 6) {R C : List Int} (hR : R.Nodup) (hC : C.Nodup) (h1 : ∀ r ∈ R, isS r ∧ sz r = (k : Int) - 1) (h2 : ∀ s ∈ C, isS s ∧ sz s = k) : mB 2 R.length C.length (ent (sgnM R C)) := by
  have : k = 1 ∨ k = 2 ∨ k = 3 ∨ k = 4 ∨ k = 5 ∨ k = 6 := by omega
  rcases this with rfl | rfl | rfl | rfl | rfl | rfl
  · exact bor_gen bchk1 det1 (by omega) hR hC h1 h2
  · exact bor_gen bchk2 det2 (by omega) hR hC h1 h2
  · exact bor_gen bchk3 det3 (by omega) hR hC h1 h2
  · exact bor_gen bchk4 det4 (by omega) hR hC h1 h2
  · exact bor_gen bchk5 det5 (by omega) hR hC h1 h2
  · exact bor_gen bchk6 det6 (by omega) hR hC h1 h2
/-- The Smith form of a border. -/
noncomputable def bsm (R C : List Int) : List Int := (smsV (sgnM R C)).getD []
theorem bor_smith {k : Nat} (hk : 1 ≤ k ∧ k ≤ 6) {R C : List Int} (hR : R.Nodup) (hC : C.Nodup) (h1 : ∀ r ∈ R, isS r ∧ sz r = (k : Int) - 1) (h2 : ∀ s ∈ C, isS s ∧ sz s = k) : smsV (sgnM R C) = some (bsm R C) ∧ smiV (sgnM R C) = some (bsm R C) := by
  have h := bor_mB hk hR hC h1 h2
  have hw : 0 < R.length → wdM (sgnM R C) = C.length := fun h0 => by
    unfold wdM
    rw [sgnM_at h0]
    simp
  have h' : mB 2 (sgnM R C).length (wdM (sgnM R C)) (ent (sgnM R C)) := by
    rw [sgnM_len]
    by_cases h0 : 0 < R.length
    · rw [hw h0]; exact h
    · intro Rl Cl hl _ _ hRb _
      have : Rl = [] := by
        cases Rl with
        | nil => rfl
        | cons a l => have := hRb a List.mem_cons_self; omega
      subst this
      show (1 : Int).natAbs ≤ 2
      decide
  obtain ⟨S, e1, e2⟩ := smith2 h'
  unfold bsm
  rw [e1]
  exact ⟨rfl, e2⟩
end Go.Proofs.Ytkoljbncokmeaaa
namespace Go.Proofs.Ytkoljbncokmeaaa
open Go Go.RowKit
set_option maxRecDepth 1000000
set_option linter.unusedSimpArgs false
set_option linter.unusedVariables false
set_option maxHeartbeats 1000000
theorem sms_len {M : List (List Int)} {R : List Int} (h : smsV M = some R) : R.length ≤ M.length ∧ R.length ≤ wdM M := by
  unfold smsV at h
  by_cases hc : M ≠ [] ∧ smiM M
  · rw [if_pos hc] at h
    obtain ⟨q, hq⟩ := smV_iff.1 h
    obtain ⟨F, hF, _⟩ := smR_spec q (ent M) 0 [] R (Nat.zero_le _) (Nat.zero_le _) ⟨fun a b _ _ h => by omega, rfl, fun i hi => by omega, fun i j _ hj => by omega, fun i hi => by omega⟩ hq
    exact ⟨hF.l1, hF.l2⟩
  · rw [if_neg hc] at h
    simp only [Option.some.injEq] at h
    subst h
    simp
theorem bsm_sz {q : Int → Prop} {k : Nat} (hk : 1 ≤ k ∧ k ≤ 6) : smsV (sgnM (szS q ((k : Int) - 1)) (szS q k)) = some (bsm (szS q ((k : Int) - 1)) (szS q k)) ∧ smiV (sgnM (szS q ((k : Int) - 1)) (szS q k)) = some (bsm (szS q ((k : Int) - 1)) (szS q k)) :=
  bor_smith hk (setsOf_nodup _) (setsOf_nodup _) (fun r hr => by obtain ⟨a, _, b⟩ := mem_szS.1 hr; exact ⟨a, b⟩) (fun r hr => by obtain ⟨a, _, b⟩ := mem_szS.1 hr; exact ⟨a, b⟩)
theorem bsm_nil (C : List Int) : bsm [] C = [] := by
  unfold bsm
  have : smsV (sgnM [] C) = some [] := by
    unfold smsV
    rw [if_neg fun h => h.1 rfl]
  rw [this]; rfl
theorem bsm_len (R C : List Int) : (bsm R C).length ≤ R.length ∧ (bsm R C).length ≤ C.length := by
  by_cases h0 : R = []
  · rw [h0, bsm_nil]; simp
  have hpos := List.length_pos_iff.2 h0
  unfold bsm
  cases h : smsV (sgnM R C) with
  | none => simp
  | some S =>
    have h1 := sms_len h
    rw [sgnM_len] at h1
    have h2 : wdM (sgnM R C) = C.length := by
      unfold wdM
      rw [sgnM_at hpos]
      simp
    rw [h2] at h1
    exact h1
open Classical in
/-- The twists of a complex. -/
noncomputable def twL (n : Int) (l : List Int) (k : Int) : List Int := if cplx n l ∧ 0 ≤ k ∧ k ≤ 5 then (bsm (szS (faceS l) k) (szS (faceS l) (k + 1))).filter fun d => decide (1 < d) else []
noncomputable def F_s_TwistsOf : List V → Option V := F2 dC dI fun c k => some (.own 1 (ints (twL c.1 c.2 k)))
theorem filt_take {S : List Int} {j : Nat} (h : j < S.length) (p : Int → Bool) : (S.take (j + 1)).filter p = (S.take j).filter p ++ (if p (at0 S j) = true then [at0 S j] else []) := by
  rw [List.take_succ_eq_append_getElem h, List.filter_append, at0_eq h]
  cases hp : p S[j] <;> simp [hp]
theorem filt_le {S : List Int} (j : Nat) (p : Int → Bool) : ((S.take j).filter p).length ≤ S.length := by
  have h1 := List.length_filter_le p (S.take j)
  rw [List.length_take] at h1
  omega
end Go.Proofs.Ytkoljbncokmeaaa
namespace Go.Proofs.Ytkoljbncokmeaaa
open Go Go.RowKit
set_option maxRecDepth 1000000
set_option linter.unusedSimpArgs false
set_option linter.unusedVariables false
set_option maxHeartbeats 1000000
def sc_s_TwistsOf_L0 : SC := (.seq (.seq (.reg [⟨(some 23), none, (.mov (.t 7))⟩, ⟨(some 24), none, (.mov (.t 6))⟩, ⟨(some 25), none, (.len (.t 24))⟩, ⟨(some 26), none, (.bin false .lss (.t 23) (.t 25))⟩]) (.cond (.t 26) .skip (.exit 0))) (.seq (.block 1 (.seq (.reg [⟨(some 29), none, (.mov (.t 6))⟩, ⟨(some 30), none, (.mov (.t 7))⟩, ⟨(some 31), none, (.idx 1 (.t 29) (.t 30))⟩, ⟨(some 32), none, (.ld none (.int .i64 0) (.t 31))⟩, ⟨(some 33), none, (.bin false .gtr (.t 32) (.c (.int .i64 1)))⟩]) (.cond (.t 33) (.reg [⟨(some 34), none, (.mov (.t 5))⟩, ⟨(some 35), none, (.mov (.t 6))⟩, ⟨(some 36), none, (.mov (.t 7))⟩, ⟨(some 37), none, (.idx 1 (.t 35) (.t 36))⟩, ⟨(some 38), none, (.ld none (.int .i64 0) (.t 37))⟩, ⟨(some 39), none, (.mks 1 1 [(.int .i64 0)] [(0, (1, (.t 38)))])⟩, ⟨(some 40), none, (.app 1 8 (.t 34) (.t 39))⟩, ⟨(some 5), none, (.mov (.t 40))⟩]) .skip))) (.reg [⟨(some 27), none, (.mov (.t 7))⟩, ⟨(some 28), none, (.bin false .add (.t 27) (.c (.int .i64 1)))⟩, ⟨(some 7), none, (.mov (.t 28))⟩])))
def sc_s_TwistsOf : SC := (.seq (.reg [⟨(some 2), none, (.box (.t 0))⟩, ⟨(some 4), none, (.mov (.c .nil))⟩]) (.seq (.reg [⟨(some 8), none, (.mks 0 1 [] [])⟩, ⟨(some 5), none, (.mov (.t 8))⟩]) (.seq (.seq (.reg [⟨(some 9), none, (.ld (some 2) .undef (.t 2))⟩, ⟨(some 10), none, (.call 40 [(.t 9)])⟩, ⟨(some 11), none, (.un .not (.t 10))⟩, ⟨(some 12), none, (.mov (.t 11))⟩, ⟨(some 13), (some (12, false)), (.mov (.t 1))⟩, ⟨(some 14), (some (12, false)), (.call 27 [(.t 13), (.c (.int .i64 0)), (.c (.int .i64 5))])⟩, ⟨(some 15), (some (12, false)), (.un .not (.t 14))⟩, ⟨(some 16), none, (.pick (.t 12) (.c (.bool true)) (.t 15))⟩]) (.cond (.t 16) (.seq (.reg [⟨(some 17), none, (.mov (.t 5))⟩, ⟨(some 4), none, (.mov (.t 17))⟩]) .ret) .skip)) (.seq (.reg [⟨(some 18), none, (.ld (some 2) .undef (.t 2))⟩, ⟨(some 19), none, (.mov (.t 1))⟩, ⟨(some 20), none, (.bin false .add (.t 19) (.c (.int .i64 1)))⟩, ⟨(some 21), none, (.call 35 [(.t 18), (.t 20)])⟩, ⟨(some 22), none, (.call 8 [(.t 21)])⟩, ⟨(some 6), none, (.mov (.t 22))⟩]) (.seq (.seq (.reg [⟨(some 7), none, (.mov (.c (.int .i64 0)))⟩]) (.block 0 (.loop sc_s_TwistsOf_L0))) (.seq (.reg [⟨(some 41), none, (.mov (.t 5))⟩, ⟨(some 4), none, (.mov (.t 41))⟩]) .ret))))))
theorem code_s_TwistsOf : fnCode Try.prog [] 24 = some (42, sc_s_TwistsOf, [(4, none)]) := by kernel_rfl
theorem fn_s_TwistsOf : FnOk Try.prog 24 F_s_TwistsOf := by
  have env := ((((envNil_ok (P := Try.prog)).add fn_s_IsComplex).add fn_s_l1In).add fn_s_l13Border).add fn_s_SmithOf
  refine fn_ok code_s_TwistsOf mixed env ?_
  intro args r h hb
  obtain ⟨_, _, ⟨n, l⟩, k, rfl, h1, h2, h4⟩ := F2_inv h
  cases dC_inv h1
  cases dI_inv h2
  cases h4
  clear h
  refine ⟨by simp, fun w0 U0 L0 N0 => ?_⟩
  clear hb
  simp only
  cases e0 : cplxB n l with
  | false =>
    have e : twL n l k = [] := if_neg fun h => by simp [cplxB_iff.2 h.1] at e0
    rw [e]
    simp -implicitDefEqProofs [sc_s_TwistsOf, F_s_IsComplex, e0]
  | true =>
  have hc := cplxB_iff.1 e0
  by_cases g1 : 0 ≤ k ∧ k ≤ 5
  rotate_left
  · have e : twL n l k = [] := if_neg fun h => g1 h.2
    have g2 : F_s_l1In [.int .i64 k, .int .i64 0, .int .i64 5] = some (.bool false) := by
      rw [← decide_eq_false g1]
      simp [F_s_l1In]
    rw [e]
    simp -implicitDefEqProofs [sc_s_TwistsOf, F_s_IsComplex, e0, g2]
  have g2 : F_s_l1In [.int .i64 k, .int .i64 0, .int .i64 5] = some (.bool true) := by
    rw [← decide_eq_true g1]
    simp [F_s_l1In]
  have hw1 : IntKind.i64.wrap (k + 1) = k + 1 := wrapI _ (by omega) (by omega)
  have hF1 : F_i_BorderMatrix [.agg [.int .i64 n, .list 1 (ints l)], .int .i64 (k + 1)] = some (.own 1 (rowsV (borM n l (k + 1)))) := by
    simp only [F_i_BorderMatrix, F2_mk, dC_agg, dI_int, Option.bind_some]
    rw [if_pos ⟨hc, by omega, by omega⟩]
  have hbm : borM n l (k + 1) = sgnM (szS (faceS l) k) (szS (faceS l) (k + 1)) := by
    unfold borM
    rw [szS_fos hc, szS_fos hc, show k + 1 - 1 = k by omega]
  have hF2 : F_s_SmithOf [.list 1 (rowsL (borM n l (k + 1)))] = some (.own 1 (ints (bsm (szS (faceS l) k) (szS (faceS l) (k + 1))))) := by
    have h1 := (bsm_sz (q := faceS l) (k := k.toNat + 1) ⟨by omega, by omega⟩).1
    rw [show ((k.toNat + 1 : Nat) : Int) = k + 1 by omega, show k + 1 - 1 = k by omega] at h1
    rw [hbm]
    simp only [F_s_SmithOf, F1_mk, dLL_list, Option.bind_some]
    rw [h1]
    rfl
  have hT : twL n l k = (bsm (szS (faceS l) k) (szS (faceS l) (k + 1))).filter fun d => decide (1 < d) := if_pos ⟨hc, g1⟩
  have hbl : (bsm (szS (faceS l) k) (szS (faceS l) (k + 1))).length ≤ 64 := by
    have := (bsm_len (szS (faceS l) k) (szS (faceS l) (k + 1))).1
    have := szS_len (faceS l) k
    omega
  rw [hT]
  generalize bsm (szS (faceS l) k) (szS (faceS l) (k + 1)) = S at *
  generalize borM n l (k + 1) = B at *
  simp -implicitDefEqProofs [sc_s_TwistsOf, F_s_IsComplex, e0, g2, hw1, hF1, hF2]
  refine loopI env mixed (fun j : Nat => [(5, .sl 1 1 0 ((S.take j).filter fun d => decide (1 < d)).length), (6, .sl 0 1 0 S.length), (7, .int .i64 (j : Int))]) (fun j => ([(1, ints ((S.take j).filter fun d => decide (1 < d))), (0, ints S)], 2)) (fun j => j ≤ S.length) (fun j => S.length - j) 0 (by simp) (SubI.ren (fun m => if m = 0 then some 3 else if m = 1 then some 1 else none) (by simp [subT, renV, ren1]) (by simp [subH, renL, ren1]) (fun m hm => by simp only at hm; rw [if_neg (by omega), if_neg (by omega)]) (by simp) (by simp)) ?_
  intro j hj
  by_cases hlt : j < S.length
  · have ft := filt_take hlt fun d => decide (1 < d)
    have fl := filt_le (S := S) j fun d => decide (1 < d)
    by_cases h1 : 1 < at0 S j
    · rw [if_pos (by simpa using h1)] at ft
      generalize hg : (S.take j).filter (fun d => decide (1 < d)) = g at *
      have htk : g.take g.length = g := List.take_length
      simp -implicitDefEqProofs [sc_s_TwistsOf_L0, hlt, h1]
      refine ⟨by omega, ?_⟩
      refine Again.of (j + 1) (by omega) (by omega) (SubI.ren (fun m => if m = 0 then some 0 else if m = 1 then some 3 else none) ?_ ?_ ?_ (by simp) (by simp))
      · simp (disch := omega) [subT, renV, ren1, wrapI, ft]
      · simp [subH, renL, ren1, ft]
        rw [← ints_app]
        rfl
      · intro m hm
        simp only at hm
        rw [if_neg (by omega), if_neg (by omega)]
    · rw [if_neg (by simpa using h1), List.append_nil] at ft
      generalize hg : (S.take j).filter (fun d => decide (1 < d)) = g at *
      simp -implicitDefEqProofs [sc_s_TwistsOf_L0, hlt, h1]
      exact Again.of (j + 1) (by omega) (by omega) (SubI.slots (by simp [ft]) (by simp (disch := omega) [wrapI, ft]))
  · have : j = S.length := by omega
    subst this
    rw [List.take_length]
    simp -implicitDefEqProofs [sc_s_TwistsOf_L0]
end Go.Proofs.Ytkoljbncokmeaaa
namespace Go.Proofs.Ytkoljbncokmeaaa
open Go Go.RowKit
set_option maxRecDepth 1000000
set_option linter.unusedSimpArgs false
set_option linter.unusedVariables false
set_option maxHeartbeats 1000000
def sc_i_TwistsOf_L0 : SC := (.seq (.reg [⟨(some 26), none, (.bin false .lss (.t 25) (.t 24))⟩]) (.seq (.cond (.t 26) .skip (.exit 0)) (.seq (.block 1 (.seq (.reg [⟨(some 27), none, (.idx 1 (.t 23) (.t 25))⟩, ⟨(some 28), none, (.ld none (.int .i64 0) (.t 27))⟩, ⟨(some 7), none, (.mov (.t 28))⟩]) (.seq (.reg [⟨(some 29), none, (.mov (.t 7))⟩, ⟨(some 30), none, (.bin false .gtr (.t 29) (.c (.int .i64 1)))⟩]) (.cond (.t 30) (.reg [⟨(some 31), none, (.mov (.t 5))⟩, ⟨(some 32), none, (.mov (.t 7))⟩, ⟨(some 33), none, (.mks 1 1 [(.int .i64 0)] [(0, (1, (.t 32)))])⟩, ⟨(some 34), none, (.app 1 8 (.t 31) (.t 33))⟩, ⟨(some 5), none, (.mov (.t 34))⟩]) .skip)))) (.reg [⟨(some 35), none, (.bin false .add (.t 25) (.c (.int .i64 1)))⟩, ⟨(some 25), none, (.mov (.t 35))⟩]))))
def sc_i_TwistsOf : SC := (.seq (.reg [⟨(some 2), none, (.box (.t 0))⟩, ⟨(some 4), none, (.mov (.c .nil))⟩]) (.seq (.seq (.reg [⟨(some 8), none, (.ld (some 2) .undef (.t 2))⟩, ⟨(some 9), none, (.call 36 [(.t 8)])⟩, ⟨(some 10), none, (.un .not (.t 9))⟩, ⟨(some 11), none, (.mov (.t 10))⟩, ⟨(some 12), (some (11, false)), (.mov (.t 1))⟩, ⟨(some 13), (some (11, false)), (.bin false .lss (.t 12) (.c (.int .i64 0)))⟩, ⟨(some 14), none, (.pick (.t 11) (.c (.bool true)) (.t 13))⟩, ⟨(some 15), none, (.mov (.t 14))⟩, ⟨(some 16), (some (15, false)), (.mov (.t 1))⟩, ⟨(some 17), (some (15, false)), (.bin false .gtr (.t 16) (.c (.int .i64 5)))⟩, ⟨(some 18), none, (.pick (.t 15) (.c (.bool true)) (.t 17))⟩]) (.cond (.t 18) (.seq (.reg [⟨(some 4), none, (.mov (.c .nil))⟩]) .ret) .skip)) (.seq (.reg [⟨(some 5), none, (.mov (.c .nil))⟩]) (.seq (.seq (.reg [⟨(some 19), none, (.ld (some 2) .undef (.t 2))⟩, ⟨(some 20), none, (.mov (.t 1))⟩, ⟨(some 21), none, (.bin false .add (.t 20) (.c (.int .i64 1)))⟩, ⟨(some 22), none, (.call 41 [(.t 19), (.t 21)])⟩, ⟨(some 23), none, (.call 10 [(.t 22)])⟩, ⟨(some 24), none, (.len (.t 23))⟩, ⟨(some 25), none, (.mov (.c (.int .i64 0)))⟩]) (.block 0 (.loop sc_i_TwistsOf_L0))) (.seq (.reg [⟨(some 36), none, (.mov (.t 5))⟩, ⟨(some 4), none, (.mov (.t 36))⟩]) .ret)))))
theorem code_i_TwistsOf : fnCode Try.prog [] 25 = some (37, sc_i_TwistsOf, [(4, none)]) := by kernel_rfl
theorem fn_i_TwistsOf : FnOk Try.prog 25 F_s_TwistsOf := by
  have env := (((envNil_ok (P := Try.prog)).add fn_i_IsComplex).add fn_i_BorderMatrix).add fn_i_SmithOf
  refine fn_ok code_i_TwistsOf mixed env ?_
  intro args r h hb
  obtain ⟨_, _, ⟨n, l⟩, k, rfl, h1, h2, h4⟩ := F2_inv h
  cases dC_inv h1
  cases dI_inv h2
  cases h4
  clear h
  refine ⟨by simp, fun w0 U0 L0 N0 => ?_⟩
  clear hb
  simp only
  cases e0 : cplxB n l with
  | false =>
    have e : twL n l k = [] := if_neg fun h => by simp [cplxB_iff.2 h.1] at e0
    rw [e]
    simp -implicitDefEqProofs [sc_i_TwistsOf, F_s_IsComplex, e0]
  | true =>
  have hc := cplxB_iff.1 e0
  by_cases g1 : 0 ≤ k ∧ k ≤ 5
  rotate_left
  · have e : twL n l k = [] := if_neg fun h => g1 h.2
    rw [e]
    by_cases g2 : k < 0
    · simp -implicitDefEqProofs [sc_i_TwistsOf, F_s_IsComplex, e0, g2]
    · have g3 : 5 < k := by omega
      simp -implicitDefEqProofs [sc_i_TwistsOf, F_s_IsComplex, e0, g2, g3]
  have g2 : ¬ k < 0 := by omega
  have g3 : ¬ 5 < k := by omega
  have hw1 : IntKind.i64.wrap (k + 1) = k + 1 := wrapI _ (by omega) (by omega)
  have hF1 : F_i_BorderMatrix [.agg [.int .i64 n, .list 1 (ints l)], .int .i64 (k + 1)] = some (.own 1 (rowsV (borM n l (k + 1)))) := by
    simp only [F_i_BorderMatrix, F2_mk, dC_agg, dI_int, Option.bind_some]
    rw [if_pos ⟨hc, by omega, by omega⟩]
  have hbm : borM n l (k + 1) = sgnM (szS (faceS l) k) (szS (faceS l) (k + 1)) := by
    unfold borM
    rw [szS_fos hc, szS_fos hc, show k + 1 - 1 = k by omega]
  have hF2 : F_i_SmithOf [.list 1 (rowsL (borM n l (k + 1)))] = some (.own 1 (ints (bsm (szS (faceS l) k) (szS (faceS l) (k + 1))))) := by
    have h1 := (bsm_sz (q := faceS l) (k := k.toNat + 1) ⟨by omega, by omega⟩).2
    rw [show ((k.toNat + 1 : Nat) : Int) = k + 1 by omega, show k + 1 - 1 = k by omega] at h1
    rw [hbm]
    simp only [F_i_SmithOf, F1_mk, dLL_list, Option.bind_some]
    rw [h1]
    rfl
  have hT : twL n l k = (bsm (szS (faceS l) k) (szS (faceS l) (k + 1))).filter fun d => decide (1 < d) := if_pos ⟨hc, g1⟩
  have hbl : (bsm (szS (faceS l) k) (szS (faceS l) (k + 1))).length ≤ 64 := by
    have := (bsm_len (szS (faceS l) k) (szS (faceS l) (k + 1))).1
    have := szS_len (faceS l) k
    omega
  rw [hT]
  generalize bsm (szS (faceS l) k) (szS (faceS l) (k + 1)) = S at *
  generalize borM n l (k + 1) = B at *
  simp -implicitDefEqProofs [sc_i_TwistsOf, F_s_IsComplex, e0, g2, g3, hw1, hF1, hF2]
  refine loopI env mixed (fun j : Nat => [(5, .sl 1 1 0 ((S.take j).filter fun d => decide (1 < d)).length), (23, .sl 0 1 0 S.length), (24, .int .i64 (S.length : Int)), (25, .int .i64 (j : Int))]) (fun j => ([(1, ints ((S.take j).filter fun d => decide (1 < d))), (0, ints S)], 2)) (fun j => j ≤ S.length) (fun j => S.length - j) 0 (by simp) ?_ ?_
  · refine SubI.nilN 5 1 (by simp) ?_
    exact SubI.ren (fun m => if m = 0 then some 2 else if m = 1 then some 3 else none) (by simp [subT, renV, ren1]) (by simp [subH, renL, ren1]) (fun m hm => by simp only at hm; rw [if_neg (by omega), if_neg (by omega)]) (by simp) (by simp)
  intro j hj
  by_cases hlt : j < S.length
  · have ft := filt_take hlt fun d => decide (1 < d)
    have fl := filt_le (S := S) j fun d => decide (1 < d)
    by_cases h1 : 1 < at0 S j
    · rw [if_pos (by simpa using h1)] at ft
      generalize hg : (S.take j).filter (fun d => decide (1 < d)) = g at *
      simp -implicitDefEqProofs [sc_i_TwistsOf_L0, hlt, h1]
      refine ⟨by omega, ?_⟩
      refine Again.of (j + 1) (by omega) (by omega) (SubI.ren (fun m => if m = 0 then some 0 else if m = 1 then some 3 else none) ?_ ?_ ?_ (by simp) (by simp))
      · simp (disch := omega) [subT, renV, ren1, wrapI, ft]
      · simp [subH, renL, ren1, ft]
        rw [← ints_app]
        rfl
      · intro m hm
        simp only at hm
        rw [if_neg (by omega), if_neg (by omega)]
    · rw [if_neg (by simpa using h1), List.append_nil] at ft
      generalize hg : (S.take j).filter (fun d => decide (1 < d)) = g at *
      simp -implicitDefEqProofs [sc_i_TwistsOf_L0, hlt, h1]
      exact Again.of (j + 1) (by omega) (by omega) (SubI.slots (by simp [ft]) (by simp (disch := omega) [wrapI, ft]))
  · have : j = S.length := by omega
    subst this
    rw [List.take_length]
    simp -implicitDefEqProofs [sc_i_TwistsOf_L0]
end Go.Proofs.Ytkoljbncokmeaaa
namespace Go.Proofs.Ytkoljbncokmeaaa
open Go Go.RowKit
set_option maxRecDepth 1000000
set_option linter.unusedSimpArgs false
set_option linter.unusedVariables false
set_option maxHeartbeats 1000000
def sc_l_szIntS : SC := (.seq (.reg [⟨(some 4), none, (.mov (.c (.int .i64 0)))⟩]) (.seq (.reg [⟨(some 5), none, (.mov (.t 1))⟩, ⟨(some 6), none, (.mov (.t 0))⟩, ⟨(some 7), none, (.len (.t 6))⟩, ⟨(some 8), none, (.bin false .sub (.t 5) (.t 7))⟩, ⟨(some 1), none, (.mov (.t 8))⟩]) (.seq (.seq (.reg [⟨(some 9), none, (.mov (.t 1))⟩, ⟨(some 10), none, (.bin false .lss (.t 9) (.c (.int .i64 0)))⟩]) (.cond (.t 10) (.seq (.reg [⟨(some 4), none, (.mov (.c (.int .i64 (-1))))⟩]) .ret) .skip)) (.seq (.reg [⟨(some 11), none, (.mov (.t 1))⟩, ⟨(some 4), none, (.mov (.t 11))⟩]) .ret))))
theorem code_l_szIntS : fnCode Try.prog [] 26 = some (12, sc_l_szIntS, [(4, none)]) := by kernel_rfl
/-- What is left of a bound. -/
def leftOf (len : Nat) (left : Int) : Int := if left < len then -1 else left - len
def F_l_szIntS : List V → Option V := F2 dL dI fun l n => if 0 ≤ n ∧ n ≤ 1048576 then some (.int .i64 (leftOf l.length n)) else none
theorem fn_l_szIntS : FnOk Try.prog 26 F_l_szIntS := by
  refine fn_ok code_l_szIntS mixed envNil_ok ?_
  intro args r h hb
  obtain ⟨_, _, l, n, rfl, h1, h2, h4⟩ := F2_inv h
  cases dL_inv h1
  cases dI_inv h2
  simp only [Option.ite_none_right_eq_some, Option.some.injEq] at h4
  obtain ⟨⟨hn1, hn2⟩, rfl⟩ := h4
  have hl := bnd_ints (hb _ (List.mem_cons_self ..))
  refine ⟨by simp, fun w0 U0 L0 N0 => ?_⟩
  have hw : IntKind.i64.wrap (n - (l.length : Int)) = n - l.length := wrapI _ (by omega) (by omega)
  simp -implicitDefEqProofs [sc_l_szIntS, hw, leftOf]
  refine ⟨fun h => ?_, fun h => ?_⟩ <;> omega
def sc_l_szComplex : SC := (.seq (.reg [⟨(some 2), none, (.box (.t 0))⟩, ⟨(some 4), none, (.mov (.c (.int .i64 0)))⟩]) (.seq (.reg [⟨(some 5), none, (.fad 1 (.t 2))⟩, ⟨(some 6), none, (.ld none .nil (.t 5))⟩, ⟨(some 7), none, (.mov (.t 1))⟩, ⟨(some 8), none, (.call 26 [(.t 6), (.t 7)])⟩, ⟨(some 1), none, (.mov (.t 8))⟩]) (.seq (.seq (.reg [⟨(some 9), none, (.mov (.t 1))⟩, ⟨(some 10), none, (.bin false .lss (.t 9) (.c (.int .i64 0)))⟩]) (.cond (.t 10) (.seq (.reg [⟨(some 4), none, (.mov (.c (.int .i64 (-1))))⟩]) .ret) .skip)) (.seq (.reg [⟨(some 11), none, (.mov (.t 1))⟩, ⟨(some 4), none, (.mov (.t 11))⟩]) .ret))))
theorem code_l_szComplex : fnCode Try.prog [] 16 = some (12, sc_l_szComplex, [(4, none)]) := by kernel_rfl
def F_l_szComplex : List V → Option V := F2 dC dI fun c n => if 0 ≤ n ∧ n ≤ 1048576 then some (.int .i64 (leftOf c.2.length n)) else none
theorem fn_l_szComplex : FnOk Try.prog 16 F_l_szComplex := by
  have env := (envNil_ok (P := Try.prog)).add fn_l_szIntS
  refine fn_ok code_l_szComplex mixed env ?_
  intro args r h hb
  obtain ⟨_, _, ⟨p, l⟩, n, rfl, h1, h2, h4⟩ := F2_inv h
  cases dC_inv h1
  cases dI_inv h2
  simp only [Option.ite_none_right_eq_some, Option.some.injEq] at h4
  obtain ⟨⟨hn1, hn2⟩, rfl⟩ := h4
  refine ⟨by simp, fun w0 U0 L0 N0 => ?_⟩
  simp -implicitDefEqProofs [sc_l_szComplex, F_l_szIntS, hn1, hn2]
  simp only [leftOf]
  split <;> omega
def sc_l_toIntS_L0 : SC := (.seq (.seq (.reg [⟨(some 8), none, (.mov (.t 4))⟩, ⟨(some 9), none, (.mov (.t 0))⟩, ⟨(some 10), none, (.len (.t 9))⟩, ⟨(some 11), none, (.bin false .lss (.t 8) (.t 10))⟩]) (.cond (.t 11) .skip (.exit 0))) (.seq (.block 1 (.reg [⟨(some 14), none, (.mov (.t 3))⟩, ⟨(some 15), none, (.mov (.t 4))⟩, ⟨(some 16), none, (.mov (.t 0))⟩, ⟨(some 17), none, (.mov (.t 4))⟩, ⟨(some 18), none, (.idx 1 (.t 16) (.t 17))⟩, ⟨(some 19), none, (.ld none (.int .i64 0) (.t 18))⟩, ⟨(some 20), none, (.idx 1 (.t 14) (.t 15))⟩, ⟨none, none, (.st 1 (.t 20) (.t 19))⟩])) (.reg [⟨(some 12), none, (.mov (.t 4))⟩, ⟨(some 13), none, (.bin false .add (.t 12) (.c (.int .i64 1)))⟩, ⟨(some 4), none, (.mov (.t 13))⟩])))
def sc_l_toIntS : SC := (.seq (.reg [⟨(some 2), none, (.mov (.c .nil))⟩]) (.seq (.reg [⟨(some 5), none, (.mov (.t 0))⟩, ⟨(some 6), none, (.len (.t 5))⟩, ⟨(some 7), none, (.mk 1 8 [(.int .i64 0)] (.t 6) (.t 6))⟩, ⟨(some 3), none, (.mov (.t 7))⟩]) (.seq (.seq (.reg [⟨(some 4), none, (.mov (.c (.int .i64 0)))⟩]) (.block 0 (.loop sc_l_toIntS_L0))) (.seq (.reg [⟨(some 21), none, (.mov (.t 3))⟩, ⟨(some 2), none, (.mov (.t 21))⟩]) .ret))))
theorem code_l_toIntS : fnCode Try.prog [] 30 = some (22, sc_l_toIntS, [(2, none)]) := by kernel_rfl
def F_l_toIntS : List V → Option V := F1 dL fun l => if l.length ≤ 1048576 then some (.own 1 (ints l)) else none
theorem fn_l_toIntS : FnOk Try.prog 30 F_l_toIntS := by
  refine fn_ok code_l_toIntS mixed envNil_ok ?_
  intro args r h hb
  obtain ⟨_, l, rfl, h1, h4⟩ := F1_inv h
  cases dL_inv h1
  simp only [Option.ite_none_right_eq_some, Option.some.injEq] at h4
  obtain ⟨hl, rfl⟩ := h4
  refine ⟨by simp, fun w0 U0 L0 N0 => ?_⟩
  simp -implicitDefEqProofs [sc_l_toIntS]
  refine ⟨by omega, ?_⟩
  refine loopI envNil_ok mixed (fun x : Nat × List Int => [(0, .list 1 (ints l)), (3, .sl 0 1 0 l.length), (4, .int .i64 (x.1 : Int))]) (fun x => ([(0, ints x.2)], 1)) (fun x => x.1 ≤ l.length ∧ x.2.length = l.length ∧ ∀ j, j < x.1 → at0 x.2 j = at0 l j) (fun x => l.length - x.1) (0, List.replicate l.length 0) (by simp) (SubI.slots rfl (by simp)) ?_
  rintro ⟨k, m⟩ ⟨hk, hm, hn⟩
  simp only at hk hm hn
  by_cases hlt : k < l.length
  · simp -implicitDefEqProofs [sc_l_toIntS_L0, hlt, hm]
    repeat' (first | omega | apply And.intro | intro _)
    refine Again.of (k + 1, m.set k (at0 l k)) ⟨by simp only; omega, by simpa using hm, fun j hj => ?_⟩ (by simp only; omega) (SubI.slots (by simp) (by simp (disch := omega) [wrapI]))
    simp only at hj ⊢
    rw [at0_set]
    split
    · rename_i h; rw [h.1]
    · exact hn j (by omega)
  · simp -implicitDefEqProofs [sc_l_toIntS_L0, hlt, hm]
    rw [← hm]
    have : m = l := at0_ext hm fun j hj => hn j (by omega)
    subst this
    simp
def sc_l_toComplex : SC := (.seq (.reg [⟨(some 1), none, (.box (.t 0))⟩, ⟨(some 2), none, (.new [(.int .i64 0), .nil])⟩]) (.seq (.reg [⟨(some 3), none, (.new [(.int .i64 0), .nil])⟩]) (.seq (.reg [⟨(some 4), none, (.fad 0 (.t 1))⟩, ⟨(some 5), none, (.ld none (.int .i64 0) (.t 4))⟩, ⟨(some 6), none, (.fad 0 (.t 3))⟩, ⟨none, none, (.st 1 (.t 6) (.t 5))⟩]) (.seq (.reg [⟨(some 7), none, (.fad 1 (.t 1))⟩, ⟨(some 8), none, (.ld none .nil (.t 7))⟩, ⟨(some 9), none, (.call 30 [(.t 8)])⟩, ⟨(some 10), none, (.fad 1 (.t 3))⟩, ⟨none, none, (.st 1 (.t 10) (.t 9))⟩]) (.seq (.reg [⟨(some 11), none, (.ld (some 2) .undef (.t 3))⟩, ⟨none, none, (.st 2 (.t 2) (.t 11))⟩]) .ret)))))
theorem code_l_toComplex : fnCode Try.prog [] 18 = some (12, sc_l_toComplex, [(2, (some 2))]) := by kernel_rfl
def F_l_toComplex : List V → Option V := F1 dC fun c => if c.2.length ≤ 1048576 then some (.agg [.int .i64 c.1, .own 1 (ints c.2)]) else none
theorem fn_l_toComplex : FnOk Try.prog 18 F_l_toComplex := by
  have env := (envNil_ok (P := Try.prog)).add fn_l_toIntS
  refine fn_ok code_l_toComplex mixed env ?_
  intro args r h hb
  obtain ⟨_, ⟨n, l⟩, rfl, h1, h4⟩ := F1_inv h
  cases dC_inv h1
  simp only [Option.ite_none_right_eq_some, Option.some.injEq] at h4
  obtain ⟨hl, rfl⟩ := h4
  refine ⟨by simp, fun w0 U0 L0 N0 => ?_⟩
  simp -implicitDefEqProofs [sc_l_toComplex, F_l_toIntS, hl]
def sc_l_eqIntS_L0 : SC := (.seq (.seq (.reg [⟨(some 11), none, (.mov (.t 5))⟩, ⟨(some 12), none, (.mov (.t 0))⟩, ⟨(some 13), none, (.len (.t 12))⟩, ⟨(some 14), none, (.bin false .lss (.t 11) (.t 13))⟩]) (.cond (.t 14) .skip (.exit 0))) (.seq (.block 1 (.seq (.dreg [⟨⟨(some 17), none, (.mov (.t 0))⟩, false, false⟩, ⟨⟨(some 18), none, (.mov (.t 5))⟩, false, false⟩, ⟨⟨(some 19), none, (.idx 1 (.t 17) (.t 18))⟩, false, false⟩, ⟨⟨(some 20), none, (.ld none (.int .i64 0) (.t 19))⟩, false, false⟩, ⟨⟨(some 21), none, (.mov (.t 1))⟩, false, false⟩, ⟨⟨(some 22), none, (.mov (.t 5))⟩, false, false⟩, ⟨⟨(some 23), none, (.idx 1 (.t 21) (.t 22))⟩, false, false⟩, ⟨⟨(some 24), none, (.ld none (.int .i64 0) (.t 23))⟩, false, false⟩, ⟨⟨(some 25), none, (.bin false .neq (.t 20) (.t 24))⟩, false, false⟩]) (.cond (.t 25) (.seq (.reg [⟨(some 4), none, (.mov (.c (.bool false)))⟩]) .ret) .skip))) (.reg [⟨(some 15), none, (.mov (.t 5))⟩, ⟨(some 16), none, (.bin false .add (.t 15) (.c (.int .i64 1)))⟩, ⟨(some 5), none, (.mov (.t 16))⟩])))
def sc_l_eqIntS : SC := (.seq (.reg [⟨(some 4), none, (.mov (.c (.bool false)))⟩]) (.seq (.seq (.reg [⟨(some 6), none, (.mov (.t 0))⟩, ⟨(some 7), none, (.len (.t 6))⟩, ⟨(some 8), none, (.mov (.t 1))⟩, ⟨(some 9), none, (.len (.t 8))⟩, ⟨(some 10), none, (.bin false .neq (.t 7) (.t 9))⟩]) (.cond (.t 10) (.seq (.reg [⟨(some 4), none, (.mov (.c (.bool false)))⟩]) .ret) .skip)) (.seq (.seq (.reg [⟨(some 5), none, (.mov (.c (.int .i64 0)))⟩]) (.block 0 (.loop sc_l_eqIntS_L0))) (.seq (.reg [⟨(some 4), none, (.mov (.c (.bool true)))⟩]) .ret))))
theorem code_l_eqIntS : fnCode Try.prog [] 11 = some (26, sc_l_eqIntS, [(4, none)]) := by kernel_rfl
def F_l_eqIntS : List V → Option V := F2 dL dL fun a b => some (.bool (decide (a = b)))
theorem fn_l_eqIntS : FnOk Try.prog 11 F_l_eqIntS := by
  refine fn_ok code_l_eqIntS mixed envNil_ok ?_
  intro args r h hb
  obtain ⟨_, _, a, b, rfl, h1, h2, h4⟩ := F2_inv h
  cases dL_inv h1
  cases dL_inv h2
  cases h4
  have hl := bnd_ints (hb _ (List.mem_cons_self ..))
  refine ⟨by simp, fun w0 U0 L0 N0 => ?_⟩
  generalize hv : decide (a = b) = v
  by_cases hlen : a.length = b.length
  · simp -implicitDefEqProofs [sc_l_eqIntS, hlen]
    refine loopI envNil_ok mixed (fun k : Nat => [(0, .list 1 (ints a)), (1, .list 1 (ints b)), (5, .int .i64 (k : Int))]) (fun _ => ([], 0)) (fun k => k ≤ a.length ∧ ∀ j, j < k → at0 a j = at0 b j) (fun k => a.length - k) 0 (by simp) (SubI.slots rfl (by simp)) ?_
    rintro k ⟨hk, hn⟩
    by_cases hlt : k < a.length
    · by_cases he : at0 a k = at0 b k
      · simp -implicitDefEqProofs [sc_l_eqIntS_L0, hlt, he]
        repeat' (first | omega | apply And.intro | intro _)
        refine Again.of (k + 1) ⟨by omega, fun j hj => ?_⟩ (by omega) (SubI.slots rfl (by simp (disch := omega) [wrapI]))
        rcases Nat.lt_succ_iff_lt_or_eq.1 hj with h1 | rfl
        · exact hn j h1
        · exact he
      · have hf : v = false := by
          rw [← hv, decide_eq_false_iff_not]
          exact fun e => he (by rw [e])
        simp -implicitDefEqProofs [sc_l_eqIntS_L0, hlt, he, hf]
        omega
    · have hf : v = true := by
        rw [← hv, decide_eq_true_iff]
        exact at0_ext hlen fun j hj => hn j (by omega)
      simp -implicitDefEqProofs [sc_l_eqIntS_L0, hlt, hf]
  · have hf : v = false := by
      rw [← hv, decide_eq_false_iff_not]
      exact fun e => hlen (by rw [e])
    simp -implicitDefEqProofs [sc_l_eqIntS, hf]
    omega
def sc_l_eqComplex : SC := (.seq (.reg [⟨(some 2), none, (.box (.t 0))⟩, ⟨(some 3), none, (.box (.t 1))⟩, ⟨(some 4), none, (.mov (.c (.bool false)))⟩]) (.seq (.seq (.reg [⟨(some 5), none, (.fad 0 (.t 2))⟩, ⟨(some 6), none, (.ld none (.int .i64 0) (.t 5))⟩, ⟨(some 7), none, (.fad 0 (.t 3))⟩, ⟨(some 8), none, (.ld none (.int .i64 0) (.t 7))⟩, ⟨(some 9), none, (.bin false .neq (.t 6) (.t 8))⟩]) (.cond (.t 9) (.seq (.reg [⟨(some 4), none, (.mov (.c (.bool false)))⟩]) .ret) .skip)) (.seq (.seq (.reg [⟨(some 10), none, (.fad 1 (.t 2))⟩, ⟨(some 11), none, (.ld none .nil (.t 10))⟩, ⟨(some 12), none, (.fad 1 (.t 3))⟩, ⟨(some 13), none, (.ld none .nil (.t 12))⟩, ⟨(some 14), none, (.call 11 [(.t 11), (.t 13)])⟩, ⟨(some 15), none, (.un .not (.t 14))⟩]) (.cond (.t 15) (.seq (.reg [⟨(some 4), none, (.mov (.c (.bool false)))⟩]) .ret) .skip)) (.seq (.reg [⟨(some 4), none, (.mov (.c (.bool true)))⟩]) .ret))))
theorem code_l_eqComplex : fnCode Try.prog [] 20 = some (16, sc_l_eqComplex, [(4, none)]) := by kernel_rfl
def F_l_eqComplex : List V → Option V := F2 dC dC fun a b => some (.bool (decide (a = b)))
theorem fn_l_eqComplex : FnOk Try.prog 20 F_l_eqComplex := by
  have env := (envNil_ok (P := Try.prog)).add fn_l_eqIntS
  refine fn_ok code_l_eqComplex mixed env ?_
  intro args r h hb
  obtain ⟨_, _, ⟨p, a⟩, ⟨q, b⟩, rfl, h1, h2, h4⟩ := F2_inv h
  cases dC_inv h1
  cases dC_inv h2
  cases h4
  refine ⟨by simp, fun w0 U0 L0 N0 => ?_⟩
  by_cases hp : p = q
  · by_cases hab : a = b
    · simp -implicitDefEqProofs [sc_l_eqComplex, F_l_eqIntS, hp, hab]
    · simp -implicitDefEqProofs [sc_l_eqComplex, F_l_eqIntS, hp, hab]
  · simp -implicitDefEqProofs [sc_l_eqComplex, F_l_eqIntS, hp]
end Go.Proofs.Ytkoljbncokmeaaa
namespace Go.Proofs.Ytkoljbncokmeaaa
open Go Go.RowKit
set_option maxRecDepth 1000000
set_option linter.unusedSimpArgs false
set_option linter.unusedVariables false
set_option maxHeartbeats 1000000
def sc_l_markIntS_L0 : SC := (.seq (.seq (.reg [⟨(some 6), none, (.mov (.t 5))⟩, ⟨(some 7), none, (.mov (.t 0))⟩, ⟨(some 8), none, (.len (.t 7))⟩, ⟨(some 9), none, (.bin false .lss (.t 6) (.t 8))⟩]) (.cond (.t 9) .skip (.exit 0))) (.seq (.block 1 (.seq (.reg [⟨(some 12), none, (.mov (.t 0))⟩, ⟨(some 13), none, (.mov (.t 5))⟩, ⟨(some 14), none, (.mov (.t 1))⟩, ⟨(some 15), none, (.idx 1 (.t 12) (.t 13))⟩, ⟨none, none, (.st 1 (.t 15) (.t 14))⟩]) (.reg [⟨(some 16), none, (.mov (.t 1))⟩, ⟨(some 17), none, (.bin false .add (.t 16) (.c (.int .i64 1)))⟩, ⟨(some 1), none, (.mov (.t 17))⟩]))) (.reg [⟨(some 10), none, (.mov (.t 5))⟩, ⟨(some 11), none, (.bin false .add (.t 10) (.c (.int .i64 1)))⟩, ⟨(some 5), none, (.mov (.t 11))⟩])))
def sc_l_markIntS : SC := (.seq (.reg [⟨(some 4), none, (.mov (.c (.int .i64 0)))⟩]) (.seq (.seq (.reg [⟨(some 5), none, (.mov (.c (.int .i64 0)))⟩]) (.block 0 (.loop sc_l_markIntS_L0))) (.seq (.reg [⟨(some 18), none, (.mov (.t 1))⟩, ⟨(some 4), none, (.mov (.t 18))⟩]) .ret)))
theorem code_l_markIntS : fnCode Try.prog [] 14 = some (19, sc_l_markIntS, [(4, none)]) := by kernel_rfl
/-- The numbers from k on. -/
def marks (k : Int) (n : Nat) : List Int := (List.range n).map fun (i : Nat) => k + (i : Int)
@[simp] theorem marks_len (k : Int) (n : Nat) : (marks k n).length = n := by simp [marks]
@[simp] theorem marks_take (k : Int) (n : Nat) : (marks k n).take n = marks k n := List.take_of_length_le (by simp)
theorem at0_marks {k : Int} {n j : Nat} (h : j < n) : at0 (marks k n) j = k + j := by simp [marks, at0, h]
theorem marks_step {k : Int} {l : List Int} {i : Nat} (h : i < l.length) : (marks k i ++ l.drop i).set i (k + i) = marks k (i + 1) ++ l.drop (i + 1) := by
  apply at0_ext
  · simp; omega
  · intro j hj
    simp only [List.length_set, List.length_append, marks_len, List.length_drop] at hj
    rw [at0_set, at0_app, at0_app]
    simp only [marks_len, List.length_append, List.length_drop]
    by_cases e : i = j
    · subst e
      rw [if_pos ⟨rfl, by omega⟩, if_pos (by omega), at0_marks (by omega)]
    · rw [if_neg (by omega)]
      by_cases h1 : j < i
      · rw [if_pos h1, if_pos (by omega), at0_marks h1, at0_marks (by omega)]
      · rw [if_neg h1, if_neg (by omega), at0_drop, at0_drop]
        congr 1
        omega
noncomputable def markG (len : Nat) (k : Int) (cells : List V) : Option (V × List V) := (dInts cells).bind fun l => @ite _ (l.length = len ∧ 0 ≤ k ∧ k + len < 4611686018427387904) (Classical.propDecidable _) (some (.int .i64 (k + len), ints (marks k len))) none
theorem markG_of {l : List Int} {len : Nat} {k : Int} (h1 : l.length = len) (h2 : 0 ≤ k) (h3 : k + len < 4611686018427387904) : markG len k (ints l) = some (.int .i64 (k + len), ints (marks k len)) := by
  unfold markG
  rw [dInts_ints, Option.bind_some, if_pos ⟨h1, h2, h3⟩]
noncomputable def G_l_markIntS : List V → List V → Option (V × List V)
  | [.sl 0 1 0 len, .int .i64 k], cells => markG len k cells
  | _, _ => none
theorem ln_l_markIntS : LendOk Try.prog 14 0 G_l_markIntS := by
  refine fn_lend code_l_markIntS mixed envNil_ok ?_
  intro args cells r cells' hG hb
  unfold G_l_markIntS at hG
  split at hG
  case h_2 => simp at hG
  rename_i len k
  unfold markG at hG
  obtain ⟨l, h1, h2⟩ := Option.bind_eq_some_iff.1 hG
  have hc := dInts_inv h1
  subst hc
  simp only [Option.ite_none_right_eq_some, Option.some.injEq, Prod.mk.injEq] at h2
  obtain ⟨⟨rfl, hk, hk2⟩, rfl, rfl⟩ := h2
  refine ⟨by simp, fun w0 U0 L0 N0 => ?_⟩
  simp -implicitDefEqProofs [sc_l_markIntS]
  refine loopI envNil_ok mixed (fun i : Nat => [(0, .sl 0 1 0 l.length), (1, .int .i64 (k + (i : Int))), (5, .int .i64 (i : Int))]) (fun i => ([(0, ints (marks k i ++ l.drop i))], 1)) (fun i => i ≤ l.length) (fun i => l.length - i) 0 (by simp) (SubI.slots (by simp [marks]) (by simp)) ?_
  intro i hi
  by_cases hlt : i < l.length
  · have hw1 : IntKind.i64.wrap (k + (i : Int)) = k + i := wrapI _ (by omega) (by omega)
    have hw2 : IntKind.i64.wrap (k + (i : Int) + 1) = k + ((i + 1 : Nat) : Int) := by rw [wrapI _ (by omega) (by omega)]; omega
    have hms := marks_step (k := k) hlt
    simp -implicitDefEqProofs [sc_l_markIntS_L0, hlt, hw1, hw2, hms]
    repeat' (first | omega | apply And.intro)
    exact Again.of (i + 1) (by omega) (by omega) (SubI.slots (by simp) (by simp (disch := omega) [wrapI]))
  · have : i = l.length := by omega
    subst this
    simp -implicitDefEqProofs [sc_l_markIntS_L0]
    try simp
def sc_l_heldIntS_L0 : SC := (.seq (.seq (.reg [⟨(some 6), none, (.mov (.t 5))⟩, ⟨(some 7), none, (.mov (.t 0))⟩, ⟨(some 8), none, (.len (.t 7))⟩, ⟨(some 9), none, (.bin false .lss (.t 6) (.t 8))⟩]) (.cond (.t 9) .skip (.exit 0))) (.seq (.block 1 (.seq (.seq (.reg [⟨(some 12), none, (.mov (.t 0))⟩, ⟨(some 13), none, (.mov (.t 5))⟩, ⟨(some 14), none, (.idx 1 (.t 12) (.t 13))⟩, ⟨(some 15), none, (.ld none (.int .i64 0) (.t 14))⟩, ⟨(some 16), none, (.mov (.t 1))⟩, ⟨(some 17), none, (.bin false .neq (.t 15) (.t 16))⟩]) (.cond (.t 17) (.seq (.reg [⟨(some 4), none, (.mov (.c (.int .i64 (-1))))⟩]) .ret) .skip)) (.reg [⟨(some 18), none, (.mov (.t 1))⟩, ⟨(some 19), none, (.bin false .add (.t 18) (.c (.int .i64 1)))⟩, ⟨(some 1), none, (.mov (.t 19))⟩]))) (.reg [⟨(some 10), none, (.mov (.t 5))⟩, ⟨(some 11), none, (.bin false .add (.t 10) (.c (.int .i64 1)))⟩, ⟨(some 5), none, (.mov (.t 11))⟩])))
def sc_l_heldIntS : SC := (.seq (.reg [⟨(some 4), none, (.mov (.c (.int .i64 0)))⟩]) (.seq (.seq (.reg [⟨(some 5), none, (.mov (.c (.int .i64 0)))⟩]) (.block 0 (.loop sc_l_heldIntS_L0))) (.seq (.reg [⟨(some 20), none, (.mov (.t 1))⟩, ⟨(some 4), none, (.mov (.t 20))⟩]) .ret)))
theorem code_l_heldIntS : fnCode Try.prog [] 15 = some (21, sc_l_heldIntS, [(4, none)]) := by kernel_rfl
/-- For the numbers that a mark left. -/
noncomputable def heldG (l : List Int) (k : Int) : Option V := @ite _ (0 ≤ k ∧ k + l.length < 4611686018427387904 ∧ l = marks k l.length) (Classical.propDecidable _) (some (.int .i64 (k + l.length))) none
theorem heldG_of {k : Int} {n : Nat} (h1 : 0 ≤ k) (h2 : k + n < 4611686018427387904) : heldG (marks k n) k = some (.int .i64 (k + n)) := by
  unfold heldG
  rw [marks_len, if_pos ⟨h1, h2, rfl⟩]
noncomputable def F_l_heldIntS : List V → Option V := F2 dL dI heldG
theorem fn_l_heldIntS : FnOk Try.prog 15 F_l_heldIntS := by
  refine fn_ok code_l_heldIntS mixed envNil_ok ?_
  intro args r h hb
  obtain ⟨_, _, l, k, rfl, h1, h2, h4⟩ := F2_inv h
  cases dL_inv h1
  cases dI_inv h2
  clear h
  simp only [heldG, Option.ite_none_right_eq_some, Option.some.injEq] at h4
  obtain ⟨⟨hk, hk2, hl⟩, rfl⟩ := h4
  refine ⟨by simp, fun w0 U0 L0 N0 => ?_⟩
  have hat : ∀ i, i < l.length → at0 l i = k + i := fun i hi => by rw [hl, at0_marks hi]
  clear hl
  simp -implicitDefEqProofs [sc_l_heldIntS]
  refine loopI envNil_ok mixed (fun i : Nat => [(0, .list 1 (ints l)), (1, .int .i64 (k + (i : Int))), (5, .int .i64 (i : Int))]) (fun i => ([], 0)) (fun i => i ≤ l.length) (fun i => l.length - i) 0 (by simp) (SubI.slots rfl (by simp)) ?_
  intro i hi
  by_cases hlt : i < l.length
  · have hw1 : IntKind.i64.wrap (k + (i : Int)) = k + i := wrapI _ (by omega) (by omega)
    have hw2 : IntKind.i64.wrap (k + (i : Int) + 1) = k + ((i + 1 : Nat) : Int) := by rw [wrapI _ (by omega) (by omega)]; omega
    have ha := hat i hlt
    simp -implicitDefEqProofs [sc_l_heldIntS_L0, hlt, hw1, hw2, ha]
    repeat' (first | omega | apply And.intro)
    exact Again.of (i + 1) (by omega) (by omega) (SubI.slots rfl (by simp (disch := omega) [wrapI]))
  · have : i = l.length := by omega
    subst this
    simp -implicitDefEqProofs [sc_l_heldIntS_L0]
def sc_l_markComplex : SC := (.seq (.reg [⟨(some 2), none, (.box (.t 0))⟩, ⟨(some 4), none, (.mov (.c (.int .i64 0)))⟩]) (.seq (.reg [⟨(some 5), none, (.fad 1 (.t 2))⟩, ⟨(some 6), none, (.ld none .nil (.t 5))⟩, ⟨(some 7), none, (.mov (.t 1))⟩, ⟨(some 8), none, (.call 14 [(.t 6), (.t 7)])⟩, ⟨(some 1), none, (.mov (.t 8))⟩]) (.seq (.reg [⟨(some 9), none, (.mov (.t 1))⟩, ⟨(some 4), none, (.mov (.t 9))⟩]) .ret)))
theorem code_l_markComplex : fnCode Try.prog [] 23 = some (10, sc_l_markComplex, [(4, none)]) := by kernel_rfl
noncomputable def G_l_markComplex : List V → List V → Option (V × List V)
  | [.agg [.int .i64 _, .sl 0 1 0 len], .int .i64 k], cells => markG len k cells
  | _, _ => none
theorem ln_l_markComplex : LendOk Try.prog 23 0 G_l_markComplex := by
  have env := (envNil_ok (P := Try.prog)).addl ln_l_markIntS
  refine fn_lend code_l_markComplex mixed env ?_
  intro args cells r cells' hG hb
  unfold G_l_markComplex at hG
  split at hG
  case h_2 => simp at hG
  rename_i n len k
  have hG' := hG
  unfold markG at hG
  obtain ⟨l, h1, h2⟩ := Option.bind_eq_some_iff.1 hG
  have hc := dInts_inv h1
  subst hc
  simp only [Option.ite_none_right_eq_some, Option.some.injEq, Prod.mk.injEq] at h2
  obtain ⟨⟨rfl, hk, hk2⟩, rfl, rfl⟩ := h2
  refine ⟨by simp, fun w0 U0 L0 N0 => ?_⟩
  simp -implicitDefEqProofs [sc_l_markComplex, G_l_markIntS, hG', ren0]
end Go.Proofs.Ytkoljbncokmeaaa
namespace Go.Proofs.Ytkoljbncokmeaaa
open Go Go.RowKit
set_option maxRecDepth 1000000
set_option linter.unusedSimpArgs false
set_option linter.unusedVariables false
set_option maxHeartbeats 1000000
noncomputable def R0TwistsOf (n : Int) (l : List Int) (k : Int) : List Int := twL n l k
theorem bnd0TwistsOf (n : Int) (l : List Int) (k : Int) : (R0TwistsOf n l k).length ≤ 64 := by
  unfold R0TwistsOf twL
  split
  · have h1 := List.length_filter_le (fun d => decide (1 < d)) (bsm (szS (faceS l) k) (szS (faceS l) (k + 1)))
    have h2 := (bsm_len (szS (faceS l) k) (szS (faceS l) (k + 1))).1
    have h3 := szS_len (faceS l) k
    omega
  · simp
theorem resSTwistsOf (n : Int) (l : List Int) (k : Int) : F_s_TwistsOf [.agg [.int .i64 n, .list 1 (ints l)], .int .i64 k] = some (.own 1 (ints (R0TwistsOf n l k))) := by simp [F_s_TwistsOf, R0TwistsOf]
theorem resITwistsOf (n : Int) (l : List Int) (k : Int) : F_s_TwistsOf [.agg [.int .i64 n, .list 1 (ints l)], .int .i64 k] = some (.own 1 (ints (R0TwistsOf n l k))) := resSTwistsOf n l k
def sc_l_FnExactTwistsOf : SC := (.seq (.reg [⟨(some 2), none, (.box (.t 0))⟩, ⟨(some 4), none, (.mov (.c (.bool false)))⟩]) (.seq (.reg [⟨(some 5), none, (.mov (.c (.int .i64 1048576)))⟩]) (.seq (.reg [⟨(some 13), none, (.ld (some 2) .undef (.t 2))⟩, ⟨(some 14), none, (.mov (.t 5))⟩, ⟨(some 15), none, (.call 16 [(.t 13), (.t 14)])⟩, ⟨(some 5), none, (.mov (.t 15))⟩]) (.seq (.seq (.reg [⟨(some 16), none, (.mov (.t 5))⟩, ⟨(some 17), none, (.bin false .lss (.t 16) (.c (.int .i64 0)))⟩]) (.cond (.t 17) (.seq (.reg [⟨(some 4), none, (.mov (.c (.bool true)))⟩]) .ret) .skip)) (.seq (.reg [⟨(some 18), none, (.ld (some 2) .undef (.t 2))⟩, ⟨(some 19), none, (.call 18 [(.t 18)])⟩, ⟨(some 20), none, (.mov (.t 1))⟩, ⟨(some 21), none, (.call 24 [(.t 19), (.t 20)])⟩, ⟨(some 6), none, (.mov (.t 21))⟩]) (.seq (.reg [⟨(some 22), none, (.ld (some 2) .undef (.t 2))⟩, ⟨(some 23), none, (.call 18 [(.t 22)])⟩, ⟨(some 7), none, (.new [(.int .i64 0), .nil])⟩, ⟨none, none, (.st 2 (.t 7) (.t 23))⟩]) (.seq (.reg [⟨(some 24), none, (.ld (some 2) .undef (.t 7))⟩, ⟨(some 25), none, (.mov (.t 1))⟩, ⟨(some 26), none, (.call 25 [(.t 24), (.t 25)])⟩, ⟨(some 8), none, (.mov (.t 26))⟩]) (.seq (.seq (.reg [⟨(some 27), none, (.mov (.t 8))⟩, ⟨(some 28), none, (.mov (.t 6))⟩, ⟨(some 29), none, (.call 11 [(.t 27), (.t 28)])⟩, ⟨(some 30), none, (.un .not (.t 29))⟩]) (.cond (.t 30) (.seq (.reg [⟨(some 4), none, (.mov (.c (.bool false)))⟩]) .ret) .skip)) (.seq (.seq (.dreg [⟨⟨(some 31), none, (.ld (some 2) .undef (.t 7))⟩, false, false⟩, ⟨⟨(some 32), none, (.ld (some 2) .undef (.t 2))⟩, false, false⟩, ⟨⟨(some 33), none, (.call 18 [(.t 32)])⟩, false, false⟩, ⟨⟨(some 34), none, (.call 20 [(.t 31), (.t 33)])⟩, false, false⟩, ⟨⟨(some 35), none, (.un .not (.t 34))⟩, false, false⟩]) (.cond (.t 35) (.seq (.reg [⟨(some 4), none, (.mov (.c (.bool false)))⟩]) .ret) .skip)) (.seq (.reg [⟨(some 9), none, (.mov (.c (.int .i64 1)))⟩]) (.seq (.reg [⟨(some 36), none, (.ld (some 2) .undef (.t 7))⟩, ⟨(some 37), none, (.mov (.t 9))⟩, ⟨(some 38), none, (.call 23 [(.t 36), (.t 37)])⟩, ⟨(some 9), none, (.mov (.t 38))⟩]) (.seq (.seq (.reg [⟨(some 39), none, (.mov (.t 9))⟩, ⟨(some 40), none, (.bin false .lss (.t 39) (.c (.int .i64 0)))⟩, ⟨(some 41), none, (.mov (.t 40))⟩, ⟨(some 42), (some (41, false)), (.mov (.t 8))⟩, ⟨(some 43), (some (41, false)), (.mov (.t 6))⟩, ⟨(some 44), (some (41, false)), (.call 11 [(.t 42), (.t 43)])⟩, ⟨(some 45), (some (41, false)), (.un .not (.t 44))⟩, ⟨(some 46), none, (.pick (.t 41) (.c (.bool true)) (.t 45))⟩]) (.cond (.t 46) (.seq (.reg [⟨(some 4), none, (.mov (.c (.bool false)))⟩]) .ret) .skip)) (.seq (.reg [⟨(some 10), none, (.mov (.c (.int .i64 1)))⟩]) (.seq (.reg [⟨(some 47), none, (.mov (.t 8))⟩, ⟨(some 48), none, (.mov (.t 10))⟩, ⟨(some 49), none, (.call 14 [(.t 47), (.t 48)])⟩, ⟨(some 10), none, (.mov (.t 49))⟩]) (.seq (.reg [⟨(some 11), none, (.mov (.c (.int .i64 1)))⟩]) (.seq (.reg [⟨(some 50), none, (.mov (.t 8))⟩, ⟨(some 51), none, (.mov (.t 11))⟩, ⟨(some 52), none, (.call 15 [(.t 50), (.t 51)])⟩, ⟨(some 11), none, (.mov (.t 52))⟩]) (.seq (.seq (.reg [⟨(some 53), none, (.mov (.t 11))⟩, ⟨(some 54), none, (.bin false .lss (.t 53) (.c (.int .i64 0)))⟩]) (.cond (.t 54) (.seq (.reg [⟨(some 4), none, (.mov (.c (.bool false)))⟩]) .ret) .skip)) (.seq (.seq (.reg [⟨(some 55), none, (.mov (.t 11))⟩, ⟨(some 56), none, (.mov (.t 10))⟩, ⟨(some 57), none, (.bin false .neq (.t 55) (.t 56))⟩]) (.cond (.t 57) (.seq (.reg [⟨(some 4), none, (.mov (.c (.bool false)))⟩]) .ret) .skip)) (.seq (.reg [⟨(some 58), none, (.ld (some 2) .undef (.t 2))⟩, ⟨(some 59), none, (.call 18 [(.t 58)])⟩, ⟨(some 60), none, (.mov (.t 1))⟩, ⟨(some 61), none, (.call 25 [(.t 59), (.t 60)])⟩, ⟨(some 12), none, (.mov (.t 61))⟩]) (.seq (.seq (.reg [⟨(some 62), none, (.mov (.t 12))⟩, ⟨(some 63), none, (.mov (.t 6))⟩, ⟨(some 64), none, (.call 11 [(.t 62), (.t 63)])⟩, ⟨(some 65), none, (.un .not (.t 64))⟩]) (.cond (.t 65) (.seq (.reg [⟨(some 4), none, (.mov (.c (.bool false)))⟩]) .ret) .skip)) (.seq (.reg [⟨(some 11), none, (.mov (.c (.int .i64 1)))⟩]) (.seq (.reg [⟨(some 66), none, (.mov (.t 8))⟩, ⟨(some 67), none, (.mov (.t 11))⟩, ⟨(some 68), none, (.call 15 [(.t 66), (.t 67)])⟩, ⟨(some 11), none, (.mov (.t 68))⟩]) (.seq (.seq (.reg [⟨(some 69), none, (.mov (.t 11))⟩, ⟨(some 70), none, (.bin false .lss (.t 69) (.c (.int .i64 0)))⟩]) (.cond (.t 70) (.seq (.reg [⟨(some 4), none, (.mov (.c (.bool false)))⟩]) .ret) .skip)) (.seq (.seq (.reg [⟨(some 71), none, (.mov (.t 11))⟩, ⟨(some 72), none, (.mov (.t 10))⟩, ⟨(some 73), none, (.bin false .neq (.t 71) (.t 72))⟩]) (.cond (.t 73) (.seq (.reg [⟨(some 4), none, (.mov (.c (.bool false)))⟩]) .ret) .skip)) (.seq (.reg [⟨(some 4), none, (.mov (.c (.bool true)))⟩]) .ret)))))))))))))))))))))))))
theorem code_l_FnExactTwistsOf : fnCode Try.prog [] 6 = some (74, sc_l_FnExactTwistsOf, [(4, none)]) := by kernel_rfl
open Classical in
noncomputable def F_l_FnExactTwistsOf : List V → Option V := F2 dC dI fun c0 c1 => if allR c0.2 ∧ inR c1 then some (.bool true) else none
theorem fn_l_FnExactTwistsOf : FnOk Try.prog 6 F_l_FnExactTwistsOf := by
  have env := (((((((((envNil_ok (P := Try.prog)).add fn_s_TwistsOf).add fn_i_TwistsOf).add fn_l_eqComplex).add fn_l_szComplex).add fn_l_toComplex).add fn_l_eqIntS).add fn_l_heldIntS).addl ln_l_markComplex).addl ln_l_markIntS
  refine fn_ok code_l_FnExactTwistsOf mixed env ?_
  intro args r h hb
  obtain ⟨_, _, ⟨n, l⟩, x1, rfl, h1, h2, h9⟩ := F2_inv h
  cases dC_inv h1
  cases dI_inv h2
  simp only [Option.ite_none_right_eq_some, Option.some.injEq] at h9
  obtain ⟨⟨hc0, hc1⟩, rfl⟩ := h9
  refine ⟨by simp, fun w0 U0 L0 N0 => ?_⟩
  clear h hb
  have hFS := resSTwistsOf n l x1
  have hFI := resITwistsOf n l x1
  have hb0 := bnd0TwistsOf n l x1
  generalize R0TwistsOf n l x1 = R0 at *
  by_cases hl2 : 1048576 < l.length
  · have e : leftOf l.length 1048576 = -1 := by simp only [leftOf]; split <;> omega
    simp -implicitDefEqProofs [sc_l_FnExactTwistsOf, F_l_szComplex, e]
    try omega
  have e : leftOf l.length 1048576 = 1048576 - l.length := by simp only [leftOf]; split <;> omega
  have hl3 : l.length ≤ 1048576 := by omega
  have hl7 : (l.length : Int) ≤ 1048576 := by omega
  have hl8 : ¬ ((1048576 : Int) - l.length < 0) := by omega
  have hm0 := markG_of (l := l) (len := l.length) (k := 1) rfl (by omega) (by omega)
  have hk0 : ¬ ((1 + l.length) < (0 : Int)) := by omega
  have hr0 := markG_of (l := R0) (len := R0.length) (k := 1) rfl (by omega) (by omega)
  have hh0 := heldG_of (k := 1) (n := R0.length) (by omega) (by omega)
  have hn0 : ¬ ((1 + R0.length) < (0 : Int)) := by omega
  simp -implicitDefEqProofs [sc_l_FnExactTwistsOf, F_l_eqComplex, F_l_szComplex, F_l_toComplex, F_l_eqIntS, F_l_heldIntS, G_l_markComplex, G_l_markIntS, ren0, hFS, hFI, e, hl3, hl7, hl8, hm0, hk0, hr0, hh0, hn0]
  try omega
end Go.Proofs.Ytkoljbncokmeaaa
