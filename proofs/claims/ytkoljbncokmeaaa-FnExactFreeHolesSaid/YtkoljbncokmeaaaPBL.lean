import Derived.Test.YtkoljbncokmeaaaPBK
import Derived.Test.YtkoljbncokmeaaaPBE
import Derived.Test.YtkoljbncokmeaaaPBF
namespace Go.Proofs.Ytkoljbncokmeaaa
open Go Go.RowKit
set_option maxRecDepth 1000000
set_option linter.unusedSimpArgs false
set_option linter.unusedVariables false
set_option maxHeartbeats 1000000
def ent1 : List (List (Nat × Bool)) := [[(0, false)], [(0, false)], [(0, false)], [(0, false)], [(0, false)], [(0, false)]]
def ops1 : List (Nat × Nat) := [
  (0, 0), (0, 1)]
def sy10 : List (Nat × Nat) := [(0, 1)]
theorem sy10_ok : SymOk 1 6 ent1 sy10 := symC_ok (q := []) (er := 0) (ec := 0) (by decide +kernel)
def sy11 : List (Nat × Nat) := [(1, 2)]
theorem sy11_ok : SymOk 1 6 ent1 sy11 := symC_ok (q := []) (er := 0) (ec := 0) (by decide +kernel)
def sy12 : List (Nat × Nat) := [(2, 3)]
theorem sy12_ok : SymOk 1 6 ent1 sy12 := symC_ok (q := []) (er := 0) (ec := 0) (by decide +kernel)
def sy13 : List (Nat × Nat) := [(3, 4)]
theorem sy13_ok : SymOk 1 6 ent1 sy13 := symC_ok (q := []) (er := 0) (ec := 0) (by decide +kernel)
def sy14 : List (Nat × Nat) := [(4, 5)]
theorem sy14_ok : SymOk 1 6 ent1 sy14 := symC_ok (q := []) (er := 0) (ec := 0) (by decide +kernel)
def wrd1 : List (List (Nat × Nat)) := [sy10, sy11, sy10, sy12, sy11, sy10, sy13, sy12, sy11, sy10, sy14, sy13, sy12, sy11, sy10]
theorem wrd1_ok : ∀ p ∈ wrd1, SymOk 1 6 ent1 p := by
  intro p hp
  simp only [wrd1, List.mem_cons, List.not_mem_nil, or_false] at hp
  rcases hp with rfl | rfl | rfl | rfl | rfl | rfl | rfl | rfl | rfl | rfl | rfl | rfl | rfl | rfl | rfl
  · exact sy10_ok
  · exact sy11_ok
  · exact sy10_ok
  · exact sy12_ok
  · exact sy11_ok
  · exact sy10_ok
  · exact sy13_ok
  · exact sy12_ok
  · exact sy11_ok
  · exact sy10_ok
  · exact sy14_ok
  · exact sy13_ok
  · exact sy12_ok
  · exact sy11_ok
  · exact sy10_ok
theorem cnt1 : cntD 1 6 ent1 ops1 wrd1 = true := by decide +kernel
theorem det1 : ∀ R C : List Nat, R.Nodup → C.Nodup → (∀ r ∈ R, r < 1) → (∀ c ∈ C, c < 6) → R.length = C.length → (dtL (eM ent1) R C).natAbs ≤ 2 := cnt_all (by decide +kernel) wrd1_ok cnt1
def ent2 : List (List (Nat × Bool)) := [[(0, true), (1, false)], [(0, true), (2, false)], [(1, true), (2, false)], [(0, true), (3, false)], [(1, true), (3, false)], [(2, true), (3, false)], [(0, true), (4, false)], [(1, true), (4, false)], [(2, true), (4, false)], [(3, true), (4, false)], [(0, true), (5, false)], [(1, true), (5, false)], [(2, true), (5, false)], [(3, true), (5, false)], [(4, true), (5, false)]]
def ops2 : List (Nat × Nat) := [
  (0, 0), (0, 1), (0, 3), (0, 6), (0, 10), (1, 11), (2, 7), (0, 11), (1, 12), (1, 14), (2, 14), (2, 4), (0, 8), (0, 13), (0, 14), (2, 9), (2, 14), (1, 5), (2, 9), (0, 13), (2, 2), (2, 5), (0, 14)]
def sy20 : List (Nat × Nat) := [(1, 2), (3, 4), (6, 7), (10, 11)]
theorem sy20_ok : SymOk 6 15 ent2 sy20 := symC_ok (q := [(0, 1)]) (er := 0) (ec := 1) (by decide +kernel)
def sy21 : List (Nat × Nat) := [(0, 1), (4, 5), (7, 8), (11, 12)]
theorem sy21_ok : SymOk 6 15 ent2 sy21 := symC_ok (q := [(1, 2)]) (er := 0) (ec := 4) (by decide +kernel)
def sy22 : List (Nat × Nat) := [(1, 3), (2, 4), (8, 9), (12, 13)]
theorem sy22_ok : SymOk 6 15 ent2 sy22 := symC_ok (q := [(2, 3)]) (er := 0) (ec := 32) (by decide +kernel)
def sy23 : List (Nat × Nat) := [(3, 6), (4, 7), (5, 8), (13, 14)]
theorem sy23_ok : SymOk 6 15 ent2 sy23 := symC_ok (q := [(3, 4)]) (er := 0) (ec := 512) (by decide +kernel)
def sy24 : List (Nat × Nat) := [(6, 10), (7, 11), (8, 12), (9, 13)]
theorem sy24_ok : SymOk 6 15 ent2 sy24 := symC_ok (q := [(4, 5)]) (er := 0) (ec := 16384) (by decide +kernel)
def wrd2 : List (List (Nat × Nat)) := [sy20, sy21, sy20, sy22, sy21, sy20, sy23, sy22, sy21, sy20, sy24, sy23, sy22, sy21, sy20]
theorem wrd2_ok : ∀ p ∈ wrd2, SymOk 6 15 ent2 p := by
  intro p hp
  simp only [wrd2, List.mem_cons, List.not_mem_nil, or_false] at hp
  rcases hp with rfl | rfl | rfl | rfl | rfl | rfl | rfl | rfl | rfl | rfl | rfl | rfl | rfl | rfl | rfl
  · exact sy20_ok
  · exact sy21_ok
  · exact sy20_ok
  · exact sy22_ok
  · exact sy21_ok
  · exact sy20_ok
  · exact sy23_ok
  · exact sy22_ok
  · exact sy21_ok
  · exact sy20_ok
  · exact sy24_ok
  · exact sy23_ok
  · exact sy22_ok
  · exact sy21_ok
  · exact sy20_ok
theorem cnt2 : cntD 6 15 ent2 ops2 wrd2 = true := by decide +kernel
theorem det2 : ∀ R C : List Nat, R.Nodup → C.Nodup → (∀ r ∈ R, r < 6) → (∀ c ∈ C, c < 15) → R.length = C.length → (dtL (eM ent2) R C).natAbs ≤ 2 := cnt_all (by decide +kernel) wrd2_ok cnt2
def ent3 : List (List (Nat × Bool)) := [[(0, false), (1, true), (2, false)], [(0, false), (3, true), (4, false)], [(1, false), (3, true), (5, false)], [(2, false), (4, true), (5, false)], [(0, false), (6, true), (7, false)], [(1, false), (6, true), (8, false)], [(2, false), (7, true), (8, false)], [(3, false), (6, true), (9, false)], [(4, false), (7, true), (9, false)], [(5, false), (8, true), (9, false)], [(0, false), (10, true), (11, false)], [(1, false), (10, true), (12, false)], [(2, false), (11, true), (12, false)], [(3, false), (10, true), (13, false)], [(4, false), (11, true), (13, false)], [(5, false), (12, true), (13, false)], [(6, false), (10, true), (14, false)], [(7, false), (11, true), (14, false)], [(8, false), (12, true), (14, false)], [(9, false), (13, true), (14, false)]]
def ops3 : List (Nat × Nat) := [
  (0, 0), (0, 1), (0, 2), (0, 4), (0, 5), (0, 7), (0, 10), (0, 11), (0, 13), (0, 16), (1, 17), (2, 14), (0, 17), (1, 18), (1, 19), (2, 19), (2, 12), (0, 14), (0, 17), (1, 18), (2, 15), (0, 18), 
  (1, 19), (2, 19), (2, 15), (0, 18), (3, 12), (0, 14), (0, 17), (1, 18), (2, 19), (3, 8), (0, 10), (0, 11), (0, 14), (0, 18), (1, 19), (2, 15), (0, 19), (2, 19), (2, 12), (0, 13), (0, 16), (1, 17), 
  (1, 18), (2, 14), (0, 18), (1, 19), (2, 15), (0, 18), (1, 19), (2, 19), (2, 13), (0, 15), (0, 16), (1, 18), (1, 19), (2, 16), (1, 18), (0, 19), (2, 19), (2, 14), (0, 15), (0, 18), (1, 19), (2, 18), 
  (0, 19), (2, 19), (2, 15), (0, 18), (1, 19), (2, 19), (2, 11), (0, 12), (0, 14), (0, 17), (1, 19), (2, 19), (2, 13), (0, 14), (0, 16), (1, 17), (1, 18), (2, 16), (1, 17), (0, 18), (1, 19), (2, 18), 
  (1, 19), (2, 14), (0, 15), (0, 17), (1, 18), (1, 19), (2, 17), (1, 18), (0, 19), (2, 19), (2, 15), (0, 18), (1, 19), (2, 19), (2, 12), (0, 13), (0, 14), (0, 16), (1, 17), (1, 18), (1, 19), (2, 15), 
  (0, 16), (1, 17), (1, 18), (1, 19), (2, 16), (1, 17), (0, 19), (2, 18), (0, 19), (2, 19), (2, 14), (0, 17), (1, 18), (1, 19), (2, 15), (0, 18), (1, 19), (2, 19), (2, 13), (0, 14), (0, 15), (0, 17), 
  (1, 18), (2, 16), (0, 18), (2, 18), (0, 19), (2, 19), (2, 15), (0, 16), (1, 17), (0, 18), (1, 19), (2, 18), (1, 19), (2, 16), (1, 17), (0, 18), (0, 19), (2, 19), (2, 18), (0, 19), (2, 19), (2, 14), 
  (0, 15), (0, 17), (1, 18), (1, 19), (2, 17), (1, 18), (0, 19), (2, 19), (2, 15), (0, 18), (1, 19), (2, 19), (2, 10), (0, 11), (0, 19), (2, 12), (0, 15), (0, 18), (0, 19), (2, 19), (2, 19), (2, 13), 
  (0, 16), (1, 17), (0, 18), (0, 19), (3, 18), (0, 19), (3, 14), (0, 15), (0, 17), (1, 18), (0, 19), (2, 19), (2, 17), (1, 18), (0, 19), (2, 19), (2, 15), (0, 18), (0, 19), (2, 19), (2, 19), (2, 12), 
  (0, 13), (0, 14), (0, 16), (0, 19), (2, 17), (0, 19), (2, 18), (0, 19), (2, 19), (2, 16), (0, 19), (2, 17), (0, 19), (2, 19), (2, 14), (0, 17), (0, 19), (2, 18), (0, 19), (2, 19), (2, 19), (2, 13), 
  (0, 14), (0, 16), (0, 18), (0, 19), (2, 19), (2, 17), (0, 18), (0, 19), (2, 19), (2, 18), (0, 19), (2, 19), (2, 16), (0, 19), (2, 17), (0, 18), (0, 19), (2, 19), (2, 19), (2, 14), (0, 15), (0, 17), 
  (0, 19), (2, 19), (2, 17), (0, 19), (2, 18), (0, 19), (2, 19), (2, 19), (2, 6), (0, 9), (0, 10), (0, 14), (0, 15), (0, 16), (1, 18), (2, 16), (0, 19), (2, 18), (0, 19), (2, 19), (2, 15), (0, 18), 
  (1, 19), (2, 19), (2, 11), (0, 12), (0, 14), (0, 16), (0, 19), (2, 19), (2, 19), (2, 14), (0, 15), (0, 16), (1, 17), (1, 19), (2, 16), (0, 19), (2, 17), (0, 18), (2, 18), (0, 19), (2, 19), (2, 15), 
  (0, 16), (1, 17), (0, 19), (2, 19), (2, 16), (0, 19), (2, 17), (0, 18), (1, 19), (2, 18), (0, 19), (2, 19), (2, 13), (0, 14), (0, 16), (0, 18), (2, 17), (0, 18), (2, 18), (0, 19), (2, 19), (2, 15), 
  (0, 16), (1, 17), (0, 18), (2, 18), (2, 16), (0, 18), (2, 17), (0, 19), (2, 18), (0, 19), (2, 19), (2, 14), (0, 15), (0, 16), (0, 18), (1, 19), (2, 18), (1, 19), (2, 16), (0, 19), (2, 18), (0, 19), 
  (2, 19), (2, 15), (0, 18), (1, 19), (2, 19), (2, 10), (0, 14), (0, 16), (1, 18), (0, 19), (3, 15), (0, 18), (0, 19), (2, 19), (2, 19), (2, 11), (0, 12), (0, 19), (2, 14), (0, 16), (0, 19), (2, 17), 
  (0, 19), (2, 18), (0, 19), (2, 19), (2, 15), (0, 16), (0, 19), (2, 17), (0, 19), (2, 18), (0, 19), (2, 19), (2, 16), (0, 19), (2, 17), (0, 19), (2, 18), (0, 19), (2, 19), (2, 13), (0, 15), (0, 16), 
  (1, 17), (0, 18), (0, 19), (2, 19), (2, 18), (2, 16), (0, 18), (0, 19), (2, 19), (2, 17), (0, 19), (2, 18), (0, 19), (2, 19), (2, 14), (0, 15), (0, 16), (0, 18), (0, 19), (2, 19), (2, 18), (0, 19), 
  (2, 19), (2, 16), (0, 19), (2, 18), (0, 19), (2, 19), (2, 15), (0, 18), (0, 19), (2, 19), (2, 19), (2, 9), (0, 10), (0, 15), (0, 16), (0, 18), (2, 17), (0, 18), (2, 18), (2, 16), (0, 18), (2, 17), 
  (0, 18), (2, 18), (0, 19), (3, 11), (0, 14), (0, 16), (0, 17), (1, 19), (2, 17), (0, 18), (1, 19), (2, 19), (2, 16), (0, 17), (0, 19), (2, 18), (1, 19), (2, 17), (0, 18), (0, 19), (2, 19), (2, 18), 
  (0, 19), (2, 19), (2, 12), (0, 14), (0, 16), (0, 17), (1, 18), (2, 17), (0, 18), (2, 18), (2, 15), (0, 16), (0, 17), (0, 19), (2, 19), (2, 17), (0, 19), (2, 18), (1, 19), (2, 16), (0, 17), (1, 18), 
  (0, 19), (2, 19), (2, 17), (0, 18), (1, 19), (2, 18), (0, 19), (2, 19), (2, 15), (0, 16), (0, 17), (0, 18), (2, 18), (2, 17), (0, 18), (2, 18), (2, 16), (0, 17), (1, 18), (0, 19), (3, 17), (0, 18), 
  (0, 19), (3, 18), (0, 19), (3, 10), (0, 16), (1, 17), (1, 18), (0, 19), (3, 11), (0, 16), (0, 17), (1, 19), (2, 17), (0, 18), (0, 19), (2, 19), (2, 19), (2, 12), (0, 14), (0, 16), (0, 17), (1, 18), 
  (0, 19), (3, 17), (0, 18), (2, 18), (0, 19), (3, 15), (0, 16), (0, 17), (1, 18), (1, 19), (2, 17), (0, 18), (1, 19), (2, 18), (0, 19), (2, 19), (2, 16), (0, 17), (1, 18), (0, 19), (2, 19), (2, 17), 
  (0, 18), (1, 19), (2, 18), (0, 19), (2, 19), (2, 15), (0, 16), (0, 17), (1, 18), (2, 17), (0, 18), (0, 19), (3, 18), (0, 19), (3, 16), (0, 17), (1, 18), (0, 19), (3, 17), (0, 18), (0, 19), (3, 18), 
  (0, 19), (3, 6), (0, 8), (0, 12), (0, 14), (0, 16), (2, 15), (0, 16), (0, 19), (2, 19), (2, 16), (0, 19), (2, 19), (2, 15), (0, 16), (0, 17), (1, 18), (2, 17), (1, 18), (0, 19), (3, 16), (0, 17), 
  (1, 18), (0, 19), (3, 17), (1, 18), (0, 19), (2, 9), (2, 12), (0, 16), (0, 19), (2, 19), (2, 14), (0, 16), (0, 17), (1, 18), (0, 19), (3, 17), (0, 18), (2, 18), (0, 19), (3, 16), (0, 17), (0, 19), 
  (2, 19), (2, 17), (0, 18), (1, 19), (2, 19), (2, 16), (0, 17), (0, 18), (0, 19), (4, 17), (0, 18), (0, 19), (3, 3), (2, 4), (0, 9), (0, 10), (0, 15), (2, 11), (0, 13), (0, 16), (1, 17), (0, 18), 
  (2, 18), (2, 14), (0, 15), (1, 18), (2, 15), (1, 19), (2, 15), (2, 10), (1, 11), (0, 13), (0, 16), (1, 17), (0, 18), (0, 19), (3, 18), (0, 19), (3, 14), (0, 15), (0, 18), (2, 18), (0, 19), (3, 15), 
  (0, 18), (1, 19), (2, 19), (2, 15), (0, 18), (3, 5), (0, 7), (0, 12), (0, 14), (0, 18), (0, 19), (3, 15), (0, 17), (0, 19), (2, 19), (2, 19), (2, 15), (0, 17), (3, 8), (0, 9), (0, 12), (0, 13), 
  (0, 15), (0, 16), (0, 17), (3, 16), (2, 15), (3, 12), (0, 13), (0, 16), (2, 15), (0, 16), (0, 19), (2, 19), (2, 17), (1, 19), (2, 15), (0, 16), (0, 17), (2, 18), (2, 16), (0, 17), (1, 19), (2, 18), 
  (0, 19), (3, 12), (0, 19), (2, 13), (0, 16), (1, 17), (1, 18), (2, 14), (0, 18), (0, 19), (3, 15), (0, 17), (0, 19), (2, 19), (2, 19), (2, 9), (0, 15), (0, 16), (0, 17), (3, 16), (1, 18), (2, 16), 
  (1, 18), (0, 19), (3, 7), (0, 14), (0, 18), (3, 19)]
def sy30 : List (Nat × Nat) := [(2, 3), (5, 6), (7, 8), (11, 12), (13, 14), (16, 17)]
theorem sy30_ok : SymOk 15 20 ent3 sy30 := symC_ok (q := [(1, 2), (3, 4), (6, 7), (10, 11)]) (er := 1) (ec := 1043) (by decide +kernel)
def sy31 : List (Nat × Nat) := [(1, 2), (4, 5), (8, 9), (10, 11), (14, 15), (17, 18)]
theorem sy31_ok : SymOk 15 20 ent3 sy31 := symC_ok (q := [(0, 1), (4, 5), (7, 8), (11, 12)]) (er := 4) (ec := 4169) (by decide +kernel)
def sy32 : List (Nat × Nat) := [(0, 1), (5, 7), (6, 8), (11, 13), (12, 14), (18, 19)]
theorem sy32_ok : SymOk 15 20 ent3 sy32 := symC_ok (q := [(1, 3), (2, 4), (8, 9), (12, 13)]) (er := 32) (ec := 33292) (by decide +kernel)
def sy33 : List (Nat × Nat) := [(1, 4), (2, 5), (3, 6), (13, 16), (14, 17), (15, 18)]
theorem sy33_ok : SymOk 15 20 ent3 sy33 := symC_ok (q := [(3, 6), (4, 7), (5, 8), (13, 14)]) (er := 512) (ec := 525184) (by decide +kernel)
def sy34 : List (Nat × Nat) := [(4, 10), (5, 11), (6, 12), (7, 13), (8, 14), (9, 15)]
theorem sy34_ok : SymOk 15 20 ent3 sy34 := symC_ok (q := [(6, 10), (7, 11), (8, 12), (9, 13)]) (er := 16384) (ec := 983040) (by decide +kernel)
def wrd3 : List (List (Nat × Nat)) := [sy30, sy31, sy30, sy32, sy31, sy30, sy33, sy32, sy31, sy30, sy34, sy33, sy32, sy31, sy30]
theorem wrd3_ok : ∀ p ∈ wrd3, SymOk 15 20 ent3 p := by
  intro p hp
  simp only [wrd3, List.mem_cons, List.not_mem_nil, or_false] at hp
  rcases hp with rfl | rfl | rfl | rfl | rfl | rfl | rfl | rfl | rfl | rfl | rfl | rfl | rfl | rfl | rfl
  · exact sy30_ok
  · exact sy31_ok
  · exact sy30_ok
  · exact sy32_ok
  · exact sy31_ok
  · exact sy30_ok
  · exact sy33_ok
  · exact sy32_ok
  · exact sy31_ok
  · exact sy30_ok
  · exact sy34_ok
  · exact sy33_ok
  · exact sy32_ok
  · exact sy31_ok
  · exact sy30_ok
theorem cnt3 : cntD 15 20 ent3 ops3 wrd3 = true := by decide +kernel
theorem det3 : ∀ R C : List Nat, R.Nodup → C.Nodup → (∀ r ∈ R, r < 15) → (∀ c ∈ C, c < 20) → R.length = C.length → (dtL (eM ent3) R C).natAbs ≤ 2 := cnt_all (by decide +kernel) wrd3_ok cnt3
def ent4 : List (List (Nat × Bool)) := [[(0, true), (1, false), (2, true), (3, false)], [(0, true), (4, false), (5, true), (6, false)], [(1, true), (4, false), (7, true), (8, false)], [(2, true), (5, false), (7, true), (9, false)], [(3, true), (6, false), (8, true), (9, false)], [(0, true), (10, false), (11, true), (12, false)], [(1, true), (10, false), (13, true), (14, false)], [(2, true), (11, false), (13, true), (15, false)], [(3, true), (12, false), (14, true), (15, false)], [(4, true), (10, false), (16, true), (17, false)], [(5, true), (11, false), (16, true), (18, false)], [(6, true), (12, false), (17, true), (18, false)], [(7, true), (13, false), (16, true), (19, false)], [(8, true), (14, false), (17, true), (19, false)], [(9, true), (15, false), (18, true), (19, false)]]
def ops4 : List (Nat × Nat) := [
  (0, 0), (0, 1), (0, 2), (0, 3), (0, 5), (0, 6), (0, 7), (0, 9), (0, 10), (0, 12), (1, 13), (2, 11), (0, 13), (1, 14), (2, 14), (2, 11), (0, 13), (3, 8), (0, 9), (0, 14), (2, 10), (0, 11), (0, 12), 
  (2, 12), (1, 13), (0, 14), (2, 14), (2, 14), (2, 9), (0, 14), (2, 10), (0, 12), (1, 13), (0, 14), (3, 11), (0, 13), (0, 14), (2, 14), (2, 14), (2, 8), (0, 11), (0, 12), (0, 13), (2, 13), (2, 12), 
  (0, 13), (2, 13), (0, 14), (3, 12), (1, 13), (0, 14), (3, 8), (0, 11), (0, 13), (0, 14), (4, 4), (2, 5), (0, 6), (0, 9), (0, 14), (2, 10), (0, 12), (0, 14), (2, 13), (0, 14), (2, 14), (2, 14), 
  (2, 7), (0, 11), (0, 12), (0, 13), (0, 14), (4, 12), (0, 13), (0, 14), (3, 13), (0, 14), (3, 12), (0, 13), (0, 14), (2, 14), (2, 14), (2, 7), (0, 8), (0, 10), (0, 11), (0, 12), (0, 13), (3, 13), 
  (3, 10), (0, 12), (1, 13), (0, 14), (2, 14), (2, 11), (0, 14), (2, 14), (2, 14), (2, 5), (0, 12), (0, 13), (0, 14), (4, 6), (0, 9), (0, 14), (2, 10), (0, 12), (1, 13), (0, 14), (3, 14), (2, 12), 
  (0, 13), (3, 9), (0, 14)]
def sy40 : List (Nat × Nat) := [(3, 4), (7, 8), (10, 11), (12, 13)]
theorem sy40_ok : SymOk 20 15 ent4 sy40 := symC_ok (q := [(2, 3), (5, 6), (7, 8), (11, 12), (13, 14), (16, 17)]) (er := 1043) (ec := 615) (by decide +kernel)
def sy41 : List (Nat × Nat) := [(2, 3), (6, 7), (9, 10), (13, 14)]
theorem sy41_ok : SymOk 20 15 ent4 sy41 := symC_ok (q := [(1, 2), (4, 5), (8, 9), (10, 11), (14, 15), (17, 18)]) (er := 4169) (ec := 2355) (by decide +kernel)
def sy42 : List (Nat × Nat) := [(1, 2), (5, 6), (10, 12), (11, 13)]
theorem sy42_ok : SymOk 20 15 ent4 sy42 := symC_ok (q := [(0, 1), (5, 7), (6, 8), (11, 13), (12, 14), (18, 19)]) (er := 33292) (ec := 16793) (by decide +kernel)
def sy43 : List (Nat × Nat) := [(0, 1), (6, 9), (7, 10), (8, 11)]
theorem sy43_ok : SymOk 20 15 ent4 sy43 := symC_ok (q := [(1, 4), (2, 5), (3, 6), (13, 16), (14, 17), (15, 18)]) (er := 525184) (ec := 28700) (by decide +kernel)
def sy44 : List (Nat × Nat) := [(1, 5), (2, 6), (3, 7), (4, 8)]
theorem sy44_ok : SymOk 20 15 ent4 sy44 := symC_ok (q := [(4, 10), (5, 11), (6, 12), (7, 13), (8, 14), (9, 15)]) (er := 983040) (ec := 32256) (by decide +kernel)
def wrd4 : List (List (Nat × Nat)) := [sy40, sy41, sy40, sy42, sy41, sy40, sy43, sy42, sy41, sy40, sy44, sy43, sy42, sy41, sy40]
theorem wrd4_ok : ∀ p ∈ wrd4, SymOk 20 15 ent4 p := by
  intro p hp
  simp only [wrd4, List.mem_cons, List.not_mem_nil, or_false] at hp
  rcases hp with rfl | rfl | rfl | rfl | rfl | rfl | rfl | rfl | rfl | rfl | rfl | rfl | rfl | rfl | rfl
  · exact sy40_ok
  · exact sy41_ok
  · exact sy40_ok
  · exact sy42_ok
  · exact sy41_ok
  · exact sy40_ok
  · exact sy43_ok
  · exact sy42_ok
  · exact sy41_ok
  · exact sy40_ok
  · exact sy44_ok
  · exact sy43_ok
  · exact sy42_ok
  · exact sy41_ok
  · exact sy40_ok
theorem cnt4 : cntD 20 15 ent4 ops4 wrd4 = true := by decide +kernel
theorem det4 : ∀ R C : List Nat, R.Nodup → C.Nodup → (∀ r ∈ R, r < 20) → (∀ c ∈ C, c < 15) → R.length = C.length → (dtL (eM ent4) R C).natAbs ≤ 2 := cnt_all (by decide +kernel) wrd4_ok cnt4
def ent5 : List (List (Nat × Bool)) := [[(0, false), (1, true), (2, false), (3, true), (4, false)], [(0, false), (5, true), (6, false), (7, true), (8, false)], [(1, false), (5, true), (9, false), (10, true), (11, false)], [(2, false), (6, true), (9, false), (12, true), (13, false)], [(3, false), (7, true), (10, false), (12, true), (14, false)], [(4, false), (8, true), (11, false), (13, true), (14, false)]]
def ops5 : List (Nat × Nat) := [
  (0, 0), (0, 1), (0, 2), (0, 3), (0, 4), (0, 5)]
def sy50 : List (Nat × Nat) := [(4, 5)]
theorem sy50_ok : SymOk 15 6 ent5 sy50 := symC_ok (q := [(3, 4), (7, 8), (10, 11), (12, 13)]) (er := 615) (ec := 15) (by decide +kernel)
def sy51 : List (Nat × Nat) := [(3, 4)]
theorem sy51_ok : SymOk 15 6 ent5 sy51 := symC_ok (q := [(2, 3), (6, 7), (9, 10), (13, 14)]) (er := 2355) (ec := 39) (by decide +kernel)
def sy52 : List (Nat × Nat) := [(2, 3)]
theorem sy52_ok : SymOk 15 6 ent5 sy52 := symC_ok (q := [(1, 2), (5, 6), (10, 12), (11, 13)]) (er := 16793) (ec := 51) (by decide +kernel)
def sy53 : List (Nat × Nat) := [(1, 2)]
theorem sy53_ok : SymOk 15 6 ent5 sy53 := symC_ok (q := [(0, 1), (6, 9), (7, 10), (8, 11)]) (er := 28700) (ec := 57) (by decide +kernel)
def sy54 : List (Nat × Nat) := [(0, 1)]
theorem sy54_ok : SymOk 15 6 ent5 sy54 := symC_ok (q := [(1, 5), (2, 6), (3, 7), (4, 8)]) (er := 32256) (ec := 60) (by decide +kernel)
def wrd5 : List (List (Nat × Nat)) := [sy50, sy51, sy50, sy52, sy51, sy50, sy53, sy52, sy51, sy50, sy54, sy53, sy52, sy51, sy50]
theorem wrd5_ok : ∀ p ∈ wrd5, SymOk 15 6 ent5 p := by
  intro p hp
  simp only [wrd5, List.mem_cons, List.not_mem_nil, or_false] at hp
  rcases hp with rfl | rfl | rfl | rfl | rfl | rfl | rfl | rfl | rfl | rfl | rfl | rfl | rfl | rfl | rfl
  · exact sy50_ok
  · exact sy51_ok
  · exact sy50_ok
  · exact sy52_ok
  · exact sy51_ok
  · exact sy50_ok
  · exact sy53_ok
  · exact sy52_ok
  · exact sy51_ok
  · exact sy50_ok
  · exact sy54_ok
  · exact sy53_ok
  · exact sy52_ok
  · exact sy51_ok
  · exact sy50_ok
theorem cnt5 : cntD 15 6 ent5 ops5 wrd5 = true := by decide +kernel
theorem det5 : ∀ R C : List Nat, R.Nodup → C.Nodup → (∀ r ∈ R, r < 15) → (∀ c ∈ C, c < 6) → R.length = C.length → (dtL (eM ent5) R C).natAbs ≤ 2 := cnt_all (by decide +kernel) wrd5_ok cnt5
def ent6 : List (List (Nat × Bool)) := [[(0, true), (1, false), (2, true), (3, false), (4, true), (5, false)]]
def ops6 : List (Nat × Nat) := [
  (0, 0)]
def sy60 : List (Nat × Nat) := []
theorem sy60_ok : SymOk 6 1 ent6 sy60 := symC_ok (q := [(4, 5)]) (er := 15) (ec := 1) (by decide +kernel)
def sy61 : List (Nat × Nat) := []
theorem sy61_ok : SymOk 6 1 ent6 sy61 := symC_ok (q := [(3, 4)]) (er := 39) (ec := 1) (by decide +kernel)
def sy62 : List (Nat × Nat) := []
theorem sy62_ok : SymOk 6 1 ent6 sy62 := symC_ok (q := [(2, 3)]) (er := 51) (ec := 1) (by decide +kernel)
def sy63 : List (Nat × Nat) := []
theorem sy63_ok : SymOk 6 1 ent6 sy63 := symC_ok (q := [(1, 2)]) (er := 57) (ec := 1) (by decide +kernel)
def sy64 : List (Nat × Nat) := []
theorem sy64_ok : SymOk 6 1 ent6 sy64 := symC_ok (q := [(0, 1)]) (er := 60) (ec := 1) (by decide +kernel)
def wrd6 : List (List (Nat × Nat)) := [sy60, sy61, sy60, sy62, sy61, sy60, sy63, sy62, sy61, sy60, sy64, sy63, sy62, sy61, sy60]
theorem wrd6_ok : ∀ p ∈ wrd6, SymOk 6 1 ent6 p := by
  intro p hp
  simp only [wrd6, List.mem_cons, List.not_mem_nil, or_false] at hp
  rcases hp with rfl | rfl | rfl | rfl | rfl | rfl | rfl | rfl | rfl | rfl | rfl | rfl | rfl | rfl | rfl
  · exact sy60_ok
  · exact sy61_ok
  · exact sy60_ok
  · exact sy62_ok
  · exact sy61_ok
  · exact sy60_ok
  · exact sy63_ok
  · exact sy62_ok
  · exact sy61_ok
  · exact sy60_ok
  · exact sy64_ok
  · exact sy63_ok
  · exact sy62_ok
  · exact sy61_ok
  · exact sy60_ok
theorem cnt6 : cntD 6 1 ent6 ops6 wrd6 = true := by decide +kernel
theorem det6 : ∀ R C : List Nat, R.Nodup → C.Nodup → (∀ r ∈ R, r < 6) → (∀ c ∈ C, c < 1) → R.length = C.length → (dtL (eM ent6) R C).natAbs ≤ 2 := cnt_all (by decide +kernel) wrd6_ok cnt6
end Go.Proofs.Ytkoljbncokmeaaa
namespace Go.Proofs.Ytkoljbncokmeaaa
open Go Go.RowKit
set_option maxRecDepth 1000000
set_option linter.unusedSimpArgs false
set_option linter.unusedVariables false
set_option maxHeartbeats 1000000
def sumN : Nat → (Nat → Int) → Int
  | 0, _ => 0
  | n + 1, f => sumN n f + f n
theorem sz_nat {x : Nat} (hx : x < 64) : sz (x : Int) = (pcF 6 x : Nat) := by
  rw [sz, Int.toNat_natCast, pc6 x hx]
end Go.Proofs.Ytkoljbncokmeaaa
namespace Go.Proofs.Ytkoljbncokmeaaa
open Go Go.RowKit
set_option maxRecDepth 1000000
set_option linter.unusedSimpArgs false
set_option linter.unusedVariables false
set_option maxHeartbeats 1000000
end Go.Proofs.Ytkoljbncokmeaaa
namespace Go.Proofs.Ytkoljbncokmeaaa
open Go Go.RowKit
set_option maxRecDepth 1000000
set_option linter.unusedSimpArgs false
set_option linter.unusedVariables false
set_option maxHeartbeats 1000000
end Go.Proofs.Ytkoljbncokmeaaa
namespace Go.Proofs.Ytkoljbncokmeaaa
open Go Go.RowKit
set_option maxRecDepth 1000000
set_option linter.unusedSimpArgs false
set_option linter.unusedVariables false
set_option maxHeartbeats 1000000
/-- A row, applied to numbers. -/
def rv (w : Nat) (r : List Int) (x : Nat → Int) : Int := sumN w fun j => at0 r j * x j
def sol (p : Int) (w : Nat) (M : List (List Int)) (x : Nat → Int) : Prop := ∀ i, i < M.length → p ∣ rv w (atR M i) x
section piv
variable {p : Int} {w : Nat} {M : List (List Int)} {d a j : Nat}
end piv
structure rrI (p : Int) (w : Nat) (M0 : List (List Int)) (j : Nat) (x : List (List Int) × List Int) : Prop where
  base : redI p w M0 j x
  sl : ∀ y, sol p w x.1 y ↔ sol p w M0 y
  one : ∀ q, q < x.2.length → at0 (atR x.1 q) (at0 x.2 q).toNat = 1
  zer : ∀ q, q < x.2.length → ∀ i, i < x.1.length → i ≠ q → at0 (atR x.1 i) (at0 x.2 q).toNat = 0
  low : ∀ i, x.2.length ≤ i → i < x.1.length → ∀ k, k < j → at0 (atR x.1 i) k = 0
end Go.Proofs.Ytkoljbncokmeaaa
namespace Go.Proofs.Ytkoljbncokmeaaa
open Go Go.RowKit
set_option maxRecDepth 1000000
set_option linter.unusedSimpArgs false
set_option linter.unusedVariables false
set_option maxHeartbeats 1000000
end Go.Proofs.Ytkoljbncokmeaaa
namespace Go.Proofs.Ytkoljbncokmeaaa
open Go Go.RowKit
set_option maxRecDepth 1000000
set_option linter.unusedSimpArgs false
set_option linter.unusedVariables false
set_option maxHeartbeats 1000000
/-- The sets of a size, and their places. -/
def ffN (k : Nat) : List Nat := (List.range 64).filter fun x => pcF 6 x == k
def sgN (x y : Nat) : Int := if x - (x &&& y) = 0 then 1 - 2 * ((pcF 6 (y &&& (y - (y &&& x) - 1)) % 2 : Nat) : Int) else 0
def bchk (k n m : Nat) (E : List (List (Nat × Bool))) : Bool :=
  Nat.beq (ffN (k - 1)).length n && (Nat.beq (ffN k).length m && (ffN (k - 1)).all fun x => (ffN k).all fun y => decide (1 ≤ y - (y &&& x)) && (sgN x y == eM E ((ffN (k - 1)).idxOf x) ((ffN k).idxOf y)))
theorem bchk1 : bchk 1 1 6 ent1 = true := by decide +kernel
theorem bchk2 : bchk 2 6 15 ent2 = true := by decide +kernel
theorem bchk3 : bchk 3 15 20 ent3 = true := by decide +kernel
theorem bchk4 : bchk 4 20 15 ent4 = true := by decide +kernel
theorem bchk5 : bchk 5 15 6 ent5 = true := by decide +kernel
theorem bchk6 : bchk 6 6 1 ent6 = true := by decide +kernel
theorem mem_ffN {k x : Nat} : x ∈ ffN k ↔ x < 64 ∧ pcF 6 x = k := by
  unfold ffN
  rw [List.mem_filter, List.mem_range, beq_iff_eq]
theorem sgZ_nat {x y : Nat} (hx : x < 64) (hy : y < 64) (h1 : 1 ≤ y - (y &&& x)) : sgnZ (x : Int) (y : Int) = sgN x y := by
  unfold sgN
  by_cases h : x - (x &&& y) = 0
  · have hs : subS (x : Int) (y : Int) := by
      unfold subS
      rw [bnot_nat0 x y hx hy, h]; rfl
    rw [sgnZ_yes hs, if_pos h, bnot_nat0 y x hy hx]
    have e : (((y - (y &&& x) : Nat) : Int) - 1) = ((y - (y &&& x) - 1 : Nat) : Int) := by omega
    rw [e, band_nat0 y _ hy (by omega), sz_nat (by have := Nat.and_le_left (n := y) (m := y - (y &&& x) - 1); omega)]
    omega
  · have hs : ¬ subS (x : Int) (y : Int) := by
      unfold subS
      rw [bnot_nat0 x y hx hy]
      omega
    rw [sgnZ_no hs, if_neg h]
theorem idx_inj {l : List Nat} {x y : Nat} (hx : x ∈ l) (hy : y ∈ l) (h : l.idxOf x = l.idxOf y) : x = y := by
  have h1 := List.getElem_idxOf (List.idxOf_lt_length_iff.2 hx)
  have h2 := List.getElem_idxOf (List.idxOf_lt_length_iff.2 hy)
  have h3 : l[l.idxOf x]'(List.idxOf_lt_length_iff.2 hx) = l[l.idxOf y]'(List.idxOf_lt_length_iff.2 hy) := by congr 1
  rw [← h1, ← h2, h3]
theorem nm_inj {g : Nat → Nat} {l : List Nat} (h : ∀ a ∈ l, ∀ b ∈ l, g a = g b → a = b) (hn : l.Nodup) : (l.map g).Nodup := nodup_map h hn
theorem at0_inj {l : List Int} (hn : l.Nodup) {a b : Nat} (ha : a < l.length) (hb : b < l.length) (e : at0 l a = at0 l b) : a = b := by
  rw [at0_eq ha, at0_eq hb] at e
  rw [List.nodup_iff_pairwise_ne, List.pairwise_iff_getElem] at hn
  rcases Nat.lt_trichotomy a b with h1 | h1 | h1
  · exact absurd e (hn a b ha hb h1)
  · exact h1
  · exact absurd e.symm (hn b a hb ha h1)
theorem bor_ent {R C : List Int} {i j : Nat} (hi : i < R.length) (hj : j < C.length) : ent (sgnM R C) i j = sgnZ (at0 R i) (at0 C j) := by
  unfold ent
  rw [sgnM_at hi, ← rowF_map, rowF_at hj]
theorem bor_gen {k n m : Nat} {E : List (List (Nat × Bool))} (hc : bchk k n m E = true) (hd : ∀ R C : List Nat, R.Nodup → C.Nodup → (∀ r ∈ R, r < n) → (∀ c ∈ C, c < m) → R.length = C.length → (dtL (eM E) R C).natAbs ≤ 2) (hk : 1 ≤ k)
    {R C : List Int} (hR : R.Nodup) (hC : C.Nodup) (h1 : ∀ r ∈ R, isS r ∧ sz r = (k : Int) - 1) (h2 : ∀ s ∈ C, isS s ∧ sz s = k) : mB 2 R.length C.length (ent (sgnM R C)) := by
  unfold bchk at hc
  simp only [Bool.and_eq_true, List.all_eq_true, decide_eq_true_eq, Nat.beq_eq, beq_iff_eq] at hc
  obtain ⟨c1, c2, c3⟩ := hc
  have m1 : ∀ a, a < R.length → (at0 R a).toNat ∈ ffN (k - 1) ∧ at0 R a = ((at0 R a).toNat : Int) := fun a ha => by
    obtain ⟨g1, g2⟩ := h1 _ (getD_mem' ha)
    have e : at0 R a = ((at0 R a).toNat : Int) := by have := g1.1; omega
    refine ⟨mem_ffN.2 ⟨by have := g1.2; omega, ?_⟩, e⟩
    rw [e, sz_nat (by have := g1.2; omega)] at g2
    omega
  have m2 : ∀ a, a < C.length → (at0 C a).toNat ∈ ffN k ∧ at0 C a = ((at0 C a).toNat : Int) := fun a ha => by
    obtain ⟨g1, g2⟩ := h2 _ (getD_mem' ha)
    have e : at0 C a = ((at0 C a).toNat : Int) := by have := g1.1; omega
    refine ⟨mem_ffN.2 ⟨by have := g1.2; omega, ?_⟩, e⟩
    rw [e, sz_nat (by have := g1.2; omega)] at g2
    omega
  intro Rl Cl hl hRn hCn hRb hCb
  have e1 : dtL (ent (sgnM R C)) Rl Cl = dtL (fun a b => eM E ((ffN (k - 1)).idxOf (at0 R a).toNat) ((ffN k).idxOf (at0 C b).toNat)) Rl Cl :=
    dtL_congr (n := R.length) (w := C.length) (fun a b ha hb => by
      obtain ⟨p1, p2⟩ := m1 a ha
      obtain ⟨q1, q2⟩ := m2 b hb
      obtain ⟨x1, x2⟩ := c3 _ p1 _ q1
      rw [bor_ent ha hb, p2, q2, sgZ_nat (mem_ffN.1 p1).1 (mem_ffN.1 q1).1 x1, x2]
      simp only [Int.toNat_natCast]) (by omega) hRb hCb
  rw [e1, dtL_map (f := eM E) (R := Rl) (C := Cl) (fun a => (ffN (k - 1)).idxOf (at0 R a).toNat) (fun b => (ffN k).idxOf (at0 C b).toNat) (by omega)]
  refine hd _ _ (nm_inj (fun a ha b hb e => ?_) hRn) (nm_inj (fun a ha b hb e => ?_) hCn) (fun r hm => ?_) (fun c hm => ?_) (by simpa using hl)
  · have p := m1 a (hRb a ha)
    have q := m1 b (hRb b hb)
    have h3 := idx_inj p.1 q.1 e
    exact at0_inj hR (hRb a ha) (hRb b hb) (by rw [p.2, q.2, h3])
  · have p := m2 a (hCb a ha)
    have q := m2 b (hCb b hb)
    have h3 := idx_inj p.1 q.1 e
    exact at0_inj hC (hCb a ha) (hCb b hb) (by rw [p.2, q.2, h3])
  · obtain ⟨a, ha, e⟩ := List.mem_map.1 hm
    rw [← e, ← c1]
    exact List.idxOf_lt_length_iff.2 (m1 a (hRb a ha)).1
  · obtain ⟨a, ha, e⟩ := List.mem_map.1 hm
    rw [← e, ← c2]
    exact List.idxOf_lt_length_iff.2 (m2 a (hCb a ha)).1
theorem bor_mB {k : Nat} (hk : 1 ≤ k ∧ k ≤ 6) {R C : List Int} (hR : R.Nodup) (hC : C.Nodup) (h1 : ∀ r ∈ R, isS r ∧ sz r = (k : Int) - 1) (h2 : ∀ s ∈ C, isS s ∧ sz s = k) : mB 2 R.length C.length (ent (sgnM R C)) := by
  have : k = 1 ∨ k = 2 ∨ k = 3 ∨ k = 4 ∨ k = 5 ∨ k = 6 := by omega
  rcases this with rfl | rfl | rfl | rfl | rfl | rfl
  · exact bor_gen bchk1 det1 (by omega) hR hC h1 h2
  · exact bor_gen bchk2 det2 (by omega) hR hC h1 h2
  · exact bor_gen bchk3 det3 (by omega) hR hC h1 h2
  · exact bor_gen bchk4 det4 (by omega) hR hC h1 h2
  · exact bor_gen bchk5 det5 (by omega) hR hC h1 h2
  · exact bor_gen bchk6 det6 (by omega) hR hC h1 h2
/-- The Smith form of a border. -/
noncomputable def bsm (R C : List Int) : List Int := (smsV (sgnM R C)).getD []
theorem bor_smith {k : Nat} (hk : 1 ≤ k ∧ k ≤ 6) {R C : List Int} (hR : R.Nodup) (hC : C.Nodup) (h1 : ∀ r ∈ R, isS r ∧ sz r = (k : Int) - 1) (h2 : ∀ s ∈ C, isS s ∧ sz s = k) : smsV (sgnM R C) = some (bsm R C) ∧ smiV (sgnM R C) = some (bsm R C) := by
  have h := bor_mB hk hR hC h1 h2
  have hw : 0 < R.length → wdM (sgnM R C) = C.length := fun h0 => by
    unfold wdM
    rw [sgnM_at h0]
    simp
  have h' : mB 2 (sgnM R C).length (wdM (sgnM R C)) (ent (sgnM R C)) := by
    rw [sgnM_len]
    by_cases h0 : 0 < R.length
    · rw [hw h0]; exact h
    · intro Rl Cl hl _ _ hRb _
      have : Rl = [] := by
        cases Rl with
        | nil => rfl
        | cons a l => have := hRb a List.mem_cons_self; omega
      subst this
      show (1 : Int).natAbs ≤ 2
      decide
  obtain ⟨S, e1, e2⟩ := smith2 h'
  unfold bsm
  rw [e1]
  exact ⟨rfl, e2⟩
end Go.Proofs.Ytkoljbncokmeaaa
namespace Go.Proofs.Ytkoljbncokmeaaa
open Go Go.RowKit
set_option maxRecDepth 1000000
set_option linter.unusedSimpArgs false
set_option linter.unusedVariables false
set_option maxHeartbeats 1000000
end Go.Proofs.Ytkoljbncokmeaaa
namespace Go.Proofs.Ytkoljbncokmeaaa
open Go Go.RowKit
set_option maxRecDepth 1000000
set_option linter.unusedSimpArgs false
set_option linter.unusedVariables false
set_option maxHeartbeats 1000000
end Go.Proofs.Ytkoljbncokmeaaa
namespace Go.Proofs.Ytkoljbncokmeaaa
open Go Go.RowKit
set_option maxRecDepth 1000000
set_option linter.unusedSimpArgs false
set_option linter.unusedVariables false
set_option maxHeartbeats 1000000
def sc_s_FaceCounts_L2 : SC := (.seq (.seq (.reg [⟨(some 15), none, (.mov (.t 3))⟩, ⟨(some 16), none, (.len (.t 15))⟩, ⟨(some 17), none, (.mov (.t 4))⟩, ⟨(some 18), none, (.mov (.t 5))⟩, ⟨(some 19), none, (.idx 1 (.t 17) (.t 18))⟩, ⟨(some 20), none, (.ld none (.int .i64 0) (.t 19))⟩, ⟨(some 21), none, (.call 55 [(.t 20)])⟩, ⟨(some 22), none, (.bin false .leq (.t 16) (.t 21))⟩]) (.cond (.t 22) .skip (.exit 2))) (.block 3 (.reg [⟨(some 23), none, (.mov (.t 3))⟩, ⟨(some 24), none, (.mks 1 1 [(.int .i64 0)] [(0, (1, (.c (.int .i64 0))))])⟩, ⟨(some 25), none, (.app 1 8 (.t 23) (.t 24))⟩, ⟨(some 3), none, (.mov (.t 25))⟩])))
def sc_s_FaceCounts_L0 : SC := (.seq (.seq (.reg [⟨(some 9), none, (.mov (.t 5))⟩, ⟨(some 10), none, (.mov (.t 4))⟩, ⟨(some 11), none, (.len (.t 10))⟩, ⟨(some 12), none, (.bin false .lss (.t 9) (.t 11))⟩]) (.cond (.t 12) .skip (.exit 0))) (.seq (.block 1 (.seq (.block 2 (.loop sc_s_FaceCounts_L2)) (.dreg [⟨⟨(some 26), none, (.mov (.t 3))⟩, false, false⟩, ⟨⟨(some 27), none, (.mov (.t 4))⟩, false, false⟩, ⟨⟨(some 28), none, (.mov (.t 5))⟩, false, false⟩, ⟨⟨(some 29), none, (.idx 1 (.t 27) (.t 28))⟩, false, false⟩, ⟨⟨(some 30), none, (.ld none (.int .i64 0) (.t 29))⟩, false, false⟩, ⟨⟨(some 31), none, (.call 55 [(.t 30)])⟩, false, false⟩, ⟨⟨(some 32), none, (.mov (.t 3))⟩, false, false⟩, ⟨⟨(some 33), none, (.mov (.t 4))⟩, false, false⟩, ⟨⟨(some 34), none, (.mov (.t 5))⟩, false, false⟩, ⟨⟨(some 35), none, (.idx 1 (.t 33) (.t 34))⟩, false, false⟩, ⟨⟨(some 36), none, (.ld none (.int .i64 0) (.t 35))⟩, false, false⟩, ⟨⟨(some 37), none, (.call 55 [(.t 36)])⟩, false, false⟩, ⟨⟨(some 38), none, (.idx 1 (.t 32) (.t 37))⟩, false, false⟩, ⟨⟨(some 39), none, (.ld none (.int .i64 0) (.t 38))⟩, false, false⟩, ⟨⟨(some 40), none, (.bin false .add (.t 39) (.c (.int .i64 1)))⟩, false, false⟩, ⟨⟨(some 41), none, (.idx 1 (.t 26) (.t 31))⟩, false, false⟩, ⟨⟨none, none, (.st 1 (.t 41) (.t 40))⟩, true, false⟩]))) (.reg [⟨(some 13), none, (.mov (.t 5))⟩, ⟨(some 14), none, (.bin false .add (.t 13) (.c (.int .i64 1)))⟩, ⟨(some 5), none, (.mov (.t 14))⟩])))
def sc_s_FaceCounts : SC := (.seq (.reg [⟨(some 1), none, (.box (.t 0))⟩, ⟨(some 2), none, (.mov (.c .nil))⟩]) (.seq (.reg [⟨(some 6), none, (.mks 0 1 [] [])⟩, ⟨(some 3), none, (.mov (.t 6))⟩]) (.seq (.reg [⟨(some 7), none, (.ld (some 2) .undef (.t 1))⟩, ⟨(some 8), none, (.call 54 [(.t 7)])⟩, ⟨(some 4), none, (.mov (.t 8))⟩]) (.seq (.seq (.reg [⟨(some 5), none, (.mov (.c (.int .i64 0)))⟩]) (.block 0 (.loop sc_s_FaceCounts_L0))) (.seq (.reg [⟨(some 42), none, (.mov (.t 3))⟩, ⟨(some 2), none, (.mov (.t 42))⟩]) .ret)))))
theorem code_s_FaceCounts : fnCode Try.prog [] 34 = some (43, sc_s_FaceCounts, [(2, none)]) := by kernel_rfl
open Classical in
/-- How many faces of each size. -/
noncomputable def fctL (n : Int) (l : List Int) : List Int := if cplx n l then rowF (topZ (faceS l) + 1).toNat (fun z => ((szS (faceS l) z).length : Nat)) else []
noncomputable def F_s_FaceCounts : List V → Option V := F1 dC fun c => some (.own 1 (ints (fctL c.1 c.2)))
theorem at0_takeq {l : List Int} {k q : Nat} (h : q < k) : at0 (l.take k) q = at0 l q := by simp [at0, List.getElem?_take, h]
theorem szRow_grow {m : Nat} {l : List Int} (h : ∀ s ∈ l, sz s < m) : szRow (m + 1) l = szRow m l ++ [0] := by
  unfold szRow
  rw [List.range_succ, List.map_append]
  congr 1
  simp only [List.map_cons, List.map_nil]
  congr 1
  unfold cntZ
  have : l.filter (fun s => dec (sz s = (m : Int))) = [] := List.filter_eq_nil_iff.2 fun s hs => by
    have := h s hs
    rw [dec_false (by omega)]
    simp
  rw [this]
  rfl
theorem fn_s_FaceCounts : FnOk Try.prog 34 F_s_FaceCounts := by
  have env := ((envNil_ok (P := Try.prog)).add fn_s_FacesOf).add fn_s_l2Size
  refine fn_ok code_s_FaceCounts mixed env ?_
  intro args r h hb
  obtain ⟨_, ⟨n, l⟩, rfl, h1, h4⟩ := F1_inv h
  cases dC_inv h1
  cases h4
  clear h
  refine ⟨by simp, fun w0 U0 L0 N0 => ?_⟩
  clear hb
  simp only
  have hL : allS (facesL n l) := allS_setsOf _
  have hLl : (facesL n l).length ≤ 64 := setsOf_len _
  have hso : (facesL n l).Pairwise fun a b => before a b = true := setsOf_sorted _
  have hres : ∀ m : Nat, (facesL n l = [] → m = 0) → (facesL n l ≠ [] → sz (at0 (facesL n l) ((facesL n l).length - 1)) + 1 = m) → (∀ q, q < (facesL n l).length → sz (at0 (facesL n l) q) < m) → fctL n l = szRow m (facesL n l) := by
    intro m h1 h2 h3
    unfold fctL
    by_cases hc : cplx n l
    · rw [if_pos hc]
      have hm : (topZ (faceS l) + 1).toNat = m := by
        have hf := facesL_of hc
        have htb := topZ_bnd (faceS l)
        by_cases he : facesL n l = []
        · rw [h1 he]
          rcases topZ_hit (faceS l) with e | ⟨s, hs, hp, _⟩
          · omega
          · have : s ∈ facesL n l := by rw [hf]; exact mem_setsOf.2 ⟨hs, hp⟩
            rw [he] at this
            simp at this
        · have hpos := List.length_pos_iff.2 he
          have hlast := getD_mem' (l := facesL n l) (j := (facesL n l).length - 1) (by omega)
          have hlast2 := hlast
          rw [hf] at hlast2
          obtain ⟨e1, e2⟩ := mem_setsOf.1 hlast2
          have h4 := topZ_ge e1 e2
          have h5 := h2 he
          rw [← hf] at h4
          rcases topZ_hit (faceS l) with e | ⟨s, hs, hp, e⟩
          · have := sz_nn (at0 (facesL n l) ((facesL n l).length - 1))
            omega
          · have hms : s ∈ facesL n l := by rw [hf]; exact mem_setsOf.2 ⟨hs, hp⟩
            obtain ⟨q, hq, rfl⟩ := getD_mem_iff.1 hms
            have := h3 q hq
            omega
      rw [hm]
      unfold rowF szRow
      refine List.map_congr_left fun z _ => ?_
      unfold cntZ
      rw [facesL_of hc, filt_setsOf]
      rfl
    · rw [if_neg hc]
      have he := facesL_not hc
      rw [h1 he, he]
      rfl
  have hFF : F_s_FacesOf [.agg [.int .i64 n, .list 1 (ints l)]] = some (.own 1 (ints (facesL n l))) := by simp [F_s_FacesOf]
  generalize facesL n l = L at *
  generalize fctL n l = F at *
  simp -implicitDefEqProofs [sc_s_FaceCounts, hFF]
  have inner : ∀ (i m0 z M1 : Nat) (Q : Post) (T0 : Tm), M1 = z + 1 → i < L.length → sz (at0 L i) = z → m0 ≤ z + 1 → (∀ s ∈ L.take i, sz s < m0) → subE T0 [(3, .sl 1 1 0 m0), (4, .sl 2 1 0 L.length), (5, .int .i64 (i : Int))] →
      Q (.exit 2) [(3, .sl 1 1 0 M1), (4, .sl 2 1 0 L.length), (5, .int .i64 (i : Int))] ([(2, ints L), (1, ints (szRow M1 (L.take i))), (0, [.int .i64 n, .list 1 (ints l)])], 3) →
      LoopI ⟨Try.prog, w0, U0, L0, N0, 0, 43⟩ [] sc_s_FaceCounts_L2 Q T0 ([(2, ints L), (1, ints (szRow m0 (L.take i))), (0, [.int .i64 n, .list 1 (ints l)])], 3) := by
    intro i m0 z M1 Q T0 hM1 hi hz hm hlow hsub q1
    subst hM1
    have hf := allS_at hL hi
    have h6 := sz_six hf
    have r1 : at0 L i < 9223372036854775808 := by have := hf.2; omega
    refine loopQ env mixed (fun j : Nat => [(3, .sl 1 1 0 j), (4, .sl 2 1 0 L.length), (5, .int .i64 (i : Int))]) (fun j => ([(2, ints L), (1, ints (szRow j (L.take i))), (0, [.int .i64 n, .list 1 (ints l)])], 3)) (fun j => m0 ≤ j ∧ j ≤ z + 1) (fun j => z + 1 - j) m0 ⟨by omega, hm⟩ (SubI.slots (by simp) (by simpa using hsub)) ?_
    rintro j ⟨hj1, hj2⟩
    by_cases hlt : j ≤ z
    · have hlt' : (j : Int) ≤ (z : Int) := by omega
      have hgr := szRow_grow (m := j) (l := L.take i) fun s hs => by have := hlow s hs; omega
      have hgl := szRow_len j (L.take i)
      generalize szRow j (L.take i) = g at *
      simp -implicitDefEqProofs [sc_s_FaceCounts_L2, F_s_l2Size, hi, r1, hz, hlt, hlt', hgl]
      repeat' (first | omega | apply And.intro)
      refine Again.of (j + 1) ⟨by omega, by omega⟩ (by omega) (SubI.ren (fun m => if m = 0 then some 0 else if m = 1 then some 4 else if m = 2 then some 2 else none) ?_ ?_ ?_ (by simp) (by simp))
      · simp (disch := omega) [subT, renV, ren1, wrapI]
      · have htk : g.take j = g := List.take_of_length_le (by omega)
        simp [subH, hgr, renL, ren1, htk]
        rw [← ints_app]
        rfl
      · intro m hm
        simp only at hm
        rw [if_neg (by omega), if_neg (by omega), if_neg (by omega)]
    · have : j = z + 1 := by omega
      subst this
      have hlt' : ¬ ((z : Int) + 1 ≤ (z : Int)) := by omega
      simp -implicitDefEqProofs [sc_s_FaceCounts_L2, F_s_l2Size, hi, r1, hz, hlt']
      exact SubQ.of (SubI.slots rfl (by simp)) q1
  refine loopI env mixed (fun x : Nat × Nat => [(3, .sl 1 1 0 x.2), (4, .sl 2 1 0 L.length), (5, .int .i64 (x.1 : Int))]) (fun x => ([(2, ints L), (1, ints (szRow x.2 (L.take x.1))), (0, [.int .i64 n, .list 1 (ints l)])], 3))
    (fun x => x.1 ≤ L.length ∧ (x.1 = 0 → x.2 = 0) ∧ (0 < x.1 → sz (at0 L (x.1 - 1)) + 1 = x.2) ∧ ∀ q, q < x.1 → sz (at0 L q) < x.2) (fun x => L.length - x.1) (0, 0) ⟨by simp, by simp, by simp, by simp⟩ (SubI.slots (by simp [szRow]) (by simp)) ?_
  rintro ⟨i, m⟩ ⟨hi, hm0, hm1, hq⟩
  simp only at hi hm0 hm1 hq
  by_cases hlt : i < L.length
  · have hf := allS_at hL hlt
    have h6 := sz_six hf
    have r1 : at0 L i < 9223372036854775808 := by have := hf.2; omega
    obtain ⟨z, hz⟩ : ∃ z : Nat, sz (at0 L i) = z := ⟨(sz (at0 L i)).toNat, by have := sz_nn (at0 L i); omega⟩
    have hmz : m ≤ z + 1 := by
      by_cases h0 : i = 0
      · rw [hm0 h0]; omega
      · have h1 := hm1 (by omega)
        have h2 := before_at hso (show i - 1 < i by omega) hlt
        simp only [before, decide_eq_true_eq] at h2
        omega
    have hlow : ∀ s ∈ L.take i, sz s < m := fun s hs => by
      obtain ⟨q, hq1, rfl⟩ := getD_mem_iff.1 hs
      rw [List.length_take] at hq1
      rw [at0_takeq (by omega)]
      exact hq q (by omega)
    have hcb := cntZ_bnd L i z
    have hw2 : IntKind.i64.wrap (cntZ (L.take i) z + 1) = cntZ (L.take i) z + 1 := wrapI _ (by omega) (by omega)
    have hF2 : F_s_l2Size [.int .i64 (at0 L i)] = some (.int .i64 (z : Int)) := by
      simp only [F_s_l2Size, F1_mk, dI_int, Option.bind_some]
      rw [if_pos r1, hz]
    obtain ⟨M1, hM1⟩ : ∃ M1, M1 = z + 1 := ⟨_, rfl⟩
    have hzM : z < M1 := by omega
    have hst := szRow_step (m := M1) hlt hz hzM
    have ha := at0_szRow (m := M1) (z := z) (L.take i) hzM
    have hgl := szRow_len M1 (L.take i)
    have hin := inner i m z M1
    simp -implicitDefEqProofs [sc_s_FaceCounts_L0, hlt]
    refine hin _ _ hM1 hlt hz hmz hlow (by simp) ?_
    simp -implicitDefEqProofs [hF2, hlt, hzM, ha, hw2, hst]
    repeat' (first | omega | apply And.intro)
    refine Again.of (i + 1, M1) ⟨by simp only; omega, by simp, fun _ => by simp only [Nat.add_sub_cancel]; omega, fun q h => ?_⟩ (by simp only; omega) (SubI.slots (by simp) (by simp (disch := omega) [wrapI]))
    simp only at h ⊢
    rcases Nat.lt_succ_iff_lt_or_eq.1 h with h1 | rfl
    · have := hq q h1; omega
    · omega
  · have : i = L.length := by omega
    subst this
    rw [hres m (fun e => hm0 (by rw [e]; rfl)) (fun e => hm1 (List.length_pos_iff.2 e)) hq]
    have htk : (szRow m L).take m = szRow m L := szRow_take m L
    simp -implicitDefEqProofs [sc_s_FaceCounts_L0]
end Go.Proofs.Ytkoljbncokmeaaa
namespace Go.Proofs.Ytkoljbncokmeaaa
open Go Go.RowKit
set_option maxRecDepth 1000000
set_option linter.unusedSimpArgs false
set_option linter.unusedVariables false
set_option maxHeartbeats 1000000
end Go.Proofs.Ytkoljbncokmeaaa
namespace Go.Proofs.Ytkoljbncokmeaaa
open Go Go.RowKit
set_option maxRecDepth 1000000
set_option linter.unusedSimpArgs false
set_option linter.unusedVariables false
set_option maxHeartbeats 1000000
theorem sms_len {M : List (List Int)} {R : List Int} (h : smsV M = some R) : R.length ≤ M.length ∧ R.length ≤ wdM M := by
  unfold smsV at h
  by_cases hc : M ≠ [] ∧ smiM M
  · rw [if_pos hc] at h
    obtain ⟨q, hq⟩ := smV_iff.1 h
    obtain ⟨F, hF, _⟩ := smR_spec q (ent M) 0 [] R (Nat.zero_le _) (Nat.zero_le _) ⟨fun a b _ _ h => by omega, rfl, fun i hi => by omega, fun i j _ hj => by omega, fun i hi => by omega⟩ hq
    exact ⟨hF.l1, hF.l2⟩
  · rw [if_neg hc] at h
    simp only [Option.some.injEq] at h
    subst h
    simp
theorem bsm_sz {q : Int → Prop} {k : Nat} (hk : 1 ≤ k ∧ k ≤ 6) : smsV (sgnM (szS q ((k : Int) - 1)) (szS q k)) = some (bsm (szS q ((k : Int) - 1)) (szS q k)) ∧ smiV (sgnM (szS q ((k : Int) - 1)) (szS q k)) = some (bsm (szS q ((k : Int) - 1)) (szS q k)) :=
  bor_smith hk (setsOf_nodup _) (setsOf_nodup _) (fun r hr => by obtain ⟨a, _, b⟩ := mem_szS.1 hr; exact ⟨a, b⟩) (fun r hr => by obtain ⟨a, _, b⟩ := mem_szS.1 hr; exact ⟨a, b⟩)
/-- The rank of a border over the whole numbers. -/
noncomputable def rkS (q : Int → Prop) (k : Int) : Int := ((bsm (szS q (k - 1)) (szS q k)).length : Nat)
theorem bsm_nil (C : List Int) : bsm [] C = [] := by
  unfold bsm
  have : smsV (sgnM [] C) = some [] := by
    unfold smsV
    rw [if_neg fun h => h.1 rfl]
  rw [this]; rfl
theorem bsm_len (R C : List Int) : (bsm R C).length ≤ R.length ∧ (bsm R C).length ≤ C.length := by
  by_cases h0 : R = []
  · rw [h0, bsm_nil]; simp
  have hpos := List.length_pos_iff.2 h0
  unfold bsm
  cases h : smsV (sgnM R C) with
  | none => simp
  | some S =>
    have h1 := sms_len h
    rw [sgnM_len] at h1
    have h2 : wdM (sgnM R C) = C.length := by
      unfold wdM
      rw [sgnM_at hpos]
      simp
    rw [h2] at h1
    exact h1
theorem rkS_bnd (q : Int → Prop) (k : Int) : 0 ≤ rkS q k ∧ rkS q k ≤ 64 := by
  have h1 := (bsm_len (szS q (k - 1)) (szS q k)).1
  have h2 := szS_len q (k - 1)
  unfold rkS
  omega
theorem rkS_low (q : Int → Prop) : rkS q 0 = 0 := by
  have e : szS q (0 - 1) = [] := szS_none (by omega)
  unfold rkS
  rw [e, bsm_nil]
  rfl
theorem rkS_high (q : Int → Prop) {k : Int} (h : topZ q < k) : rkS q k = 0 := by
  have e : szS q k = [] := szS_none (by omega)
  have h1 := (bsm_len (szS q (k - 1)) (szS q k)).2
  rw [e] at h1
  unfold rkS
  rw [e]
  simp at h1
  rw [h1]
  rfl
noncomputable def frV (q : Int → Prop) (k : Nat) : Int := ((szS q k).length : Nat) - rkS q k - rkS q (k + 1)
/-- The free parts of the holes over the whole numbers. -/
noncomputable def frZ (q : Int → Prop) : List Int := rowF (topZ q + 1).toNat (frV q)
open Classical in
noncomputable def frL (n : Int) (l : List Int) : List Int := if cplx n l then frZ (faceS l) else []
noncomputable def F_s_FreeHoles : List V → Option V := F1 dC fun c => some (.own 1 (ints (frL c.1 c.2)))
end Go.Proofs.Ytkoljbncokmeaaa
namespace Go.Proofs.Ytkoljbncokmeaaa
open Go Go.RowKit
set_option maxRecDepth 1000000
set_option linter.unusedSimpArgs false
set_option linter.unusedVariables false
set_option maxHeartbeats 1000000
def sc_s_FreeHoles_L0 : SC := (.seq (.seq (.reg [⟨(some 11), none, (.mov (.t 6))⟩, ⟨(some 12), none, (.mov (.t 4))⟩, ⟨(some 13), none, (.len (.t 12))⟩, ⟨(some 14), none, (.bin false .lss (.t 11) (.t 13))⟩]) (.cond (.t 14) .skip (.exit 0))) (.seq (.block 1 (.seq (.reg [⟨(some 7), none, (.mov (.c (.int .i64 0)))⟩]) (.seq (.seq (.reg [⟨(some 17), none, (.mov (.t 6))⟩, ⟨(some 18), none, (.bin false .add (.t 17) (.c (.int .i64 1)))⟩, ⟨(some 19), none, (.mov (.t 4))⟩, ⟨(some 20), none, (.len (.t 19))⟩, ⟨(some 21), none, (.bin false .lss (.t 18) (.t 20))⟩]) (.cond (.t 21) (.reg [⟨(some 22), none, (.ld (some 2) .undef (.t 1))⟩, ⟨(some 23), none, (.mov (.t 6))⟩, ⟨(some 24), none, (.bin false .add (.t 23) (.c (.int .i64 1)))⟩, ⟨(some 25), none, (.call 35 [(.t 22), (.t 24)])⟩, ⟨(some 26), none, (.call 8 [(.t 25)])⟩, ⟨(some 27), none, (.len (.t 26))⟩, ⟨(some 7), none, (.mov (.t 27))⟩]) .skip)) (.seq (.reg [⟨(some 28), none, (.mov (.t 3))⟩, ⟨(some 29), none, (.mov (.t 4))⟩, ⟨(some 30), none, (.mov (.t 6))⟩, ⟨(some 31), none, (.idx 1 (.t 29) (.t 30))⟩, ⟨(some 32), none, (.ld none (.int .i64 0) (.t 31))⟩, ⟨(some 33), none, (.mov (.t 5))⟩, ⟨(some 34), none, (.bin false .sub (.t 32) (.t 33))⟩, ⟨(some 35), none, (.mov (.t 7))⟩, ⟨(some 36), none, (.bin false .sub (.t 34) (.t 35))⟩, ⟨(some 37), none, (.mks 1 1 [(.int .i64 0)] [(0, (1, (.t 36)))])⟩, ⟨(some 38), none, (.app 1 8 (.t 28) (.t 37))⟩, ⟨(some 3), none, (.mov (.t 38))⟩]) (.reg [⟨(some 39), none, (.mov (.t 7))⟩, ⟨(some 5), none, (.mov (.t 39))⟩]))))) (.reg [⟨(some 15), none, (.mov (.t 6))⟩, ⟨(some 16), none, (.bin false .add (.t 15) (.c (.int .i64 1)))⟩, ⟨(some 6), none, (.mov (.t 16))⟩])))
def sc_s_FreeHoles : SC := (.seq (.reg [⟨(some 1), none, (.box (.t 0))⟩, ⟨(some 2), none, (.mov (.c .nil))⟩]) (.seq (.reg [⟨(some 8), none, (.mks 0 1 [] [])⟩, ⟨(some 3), none, (.mov (.t 8))⟩]) (.seq (.reg [⟨(some 9), none, (.ld (some 2) .undef (.t 1))⟩, ⟨(some 10), none, (.call 34 [(.t 9)])⟩, ⟨(some 4), none, (.mov (.t 10))⟩]) (.seq (.reg [⟨(some 5), none, (.mov (.c (.int .i64 0)))⟩]) (.seq (.seq (.reg [⟨(some 6), none, (.mov (.c (.int .i64 0)))⟩]) (.block 0 (.loop sc_s_FreeHoles_L0))) (.seq (.reg [⟨(some 40), none, (.mov (.t 3))⟩, ⟨(some 2), none, (.mov (.t 40))⟩]) .ret))))))
theorem code_s_FreeHoles : fnCode Try.prog [] 21 = some (41, sc_s_FreeHoles, [(2, none)]) := by kernel_rfl
theorem fn_s_FreeHoles : FnOk Try.prog 21 F_s_FreeHoles := by
  have env := (((envNil_ok (P := Try.prog)).add fn_s_FaceCounts).add fn_s_l13Border).add fn_s_SmithOf
  refine fn_ok code_s_FreeHoles mixed env ?_
  intro args r h hb
  obtain ⟨_, ⟨n, l⟩, rfl, h1, h4⟩ := F1_inv h
  cases dC_inv h1
  cases h4
  clear h
  refine ⟨by simp, fun w0 U0 L0 N0 => ?_⟩
  clear hb
  simp only
  have hFF : F_s_FaceCounts [.agg [.int .i64 n, .list 1 (ints l)]] = some (.own 1 (ints (fctL n l))) := by simp [F_s_FaceCounts]
  have hdef : ∃ m : Nat, m ≤ 7 ∧ (fctL n l).length = m ∧ (frL n l).length = m ∧ ∀ k, k < m → cplx n l ∧ topZ (faceS l) + 1 = m ∧ at0 (fctL n l) k = ((szS (faceS l) k).length : Nat) ∧ at0 (frL n l) k = frV (faceS l) k := by
    by_cases hc : cplx n l
    · have htb := topZ_bnd (faceS l)
      have e1 : fctL n l = rowF (topZ (faceS l) + 1).toNat (fun z => ((szS (faceS l) z).length : Nat)) := if_pos hc
      have e2 : frL n l = frZ (faceS l) := if_pos hc
      refine ⟨(topZ (faceS l) + 1).toNat, by omega, by rw [e1, rowF_len], by rw [e2]; unfold frZ; rw [rowF_len], fun k hk => ⟨hc, by omega, by rw [e1, rowF_at hk], ?_⟩⟩
      rw [e2]
      exact rowF_at hk
    · have e1 : fctL n l = [] := if_neg hc
      have e2 : frL n l = [] := if_neg hc
      exact ⟨0, by omega, by rw [e1]; rfl, by rw [e2]; rfl, fun k hk => by omega⟩
  obtain ⟨m, hm7, hFl, hOl, hk⟩ := hdef
  generalize fctL n l = F at *
  generalize frL n l = O at *
  simp -implicitDefEqProofs [sc_s_FreeHoles, hFF]
  refine loopI env mixed (fun k : Nat => [(1, .pt 0 0), (3, .sl 1 1 0 k), (4, .sl 2 1 0 F.length), (5, .int .i64 (rkS (faceS l) k)), (6, .int .i64 (k : Int))]) (fun k => ([(2, ints F), (1, ints (O.take k)), (0, [.int .i64 n, .list 1 (ints l)])], 3)) (fun k => k ≤ m) (fun k => m - k) 0 (by simp) (SubI.slots (by simp) (by simp [rkS_low])) ?_
  intro k hkm
  by_cases hlt : k < m
  · obtain ⟨hc, ht, hf, ho⟩ := hk k hlt
    have hltF : k < F.length := by omega
    have b1 := rkS_bnd (faceS l) k
    have b2 := rkS_bnd (faceS l) ((k : Int) + 1)
    have b3 := szS_len (faceS l) k
    have hv : frV (faceS l) k = ((szS (faceS l) k).length : Nat) - rkS (faceS l) k - rkS (faceS l) (k + 1) := rfl
    have hw1 : IntKind.i64.wrap ((k : Int) + 1) = (k : Int) + 1 := wrapI _ (by omega) (by omega)
    have e : O.take (k + 1) = O.take k ++ [((szS (faceS l) k).length : Nat) - rkS (faceS l) k - rkS (faceS l) (k + 1)] := by rw [take_at (by omega), ho, hv]
    have gl : (O.take k).length = k := by simp; omega
    by_cases hnx : k + 1 < m
    · have hF1 : F_i_BorderMatrix [.agg [.int .i64 n, .list 1 (ints l)], .int .i64 ((k : Int) + 1)] = some (.own 1 (rowsV (borM n l ((k : Int) + 1)))) := by
        simp only [F_i_BorderMatrix, F2_mk, dC_agg, dI_int, Option.bind_some]
        rw [if_pos ⟨hc, by omega, by omega⟩]
      have hbm : borM n l ((k : Int) + 1) = sgnM (szS (faceS l) ((k : Int) + 1 - 1)) (szS (faceS l) ((k : Int) + 1)) := by
        unfold borM
        rw [szS_fos hc, szS_fos hc]
      have hF2 : F_s_SmithOf [.list 1 (rowsL (borM n l ((k : Int) + 1)))] = some (.own 1 (ints (bsm (szS (faceS l) ((k : Int) + 1 - 1)) (szS (faceS l) ((k : Int) + 1))))) := by
        have h1 := (bsm_sz (q := faceS l) (k := k + 1) ⟨by omega, by omega⟩).1
        rw [show ((k + 1 : Nat) : Int) = (k : Int) + 1 by omega] at h1
        rw [hbm]
        simp only [F_s_SmithOf, F1_mk, dLL_list, Option.bind_some]
        rw [h1]
        rfl
      have hnI : (k : Int) + 1 < (F.length : Int) := by omega
      have hrr : rkS (faceS l) ((k : Int) + 1) = ((bsm (szS (faceS l) ((k : Int) + 1 - 1)) (szS (faceS l) ((k : Int) + 1))).length : Nat) := rfl
      generalize borM n l ((k : Int) + 1) = B at *
      generalize bsm (szS (faceS l) ((k : Int) + 1 - 1)) (szS (faceS l) ((k : Int) + 1)) = S at *
      generalize szS (faceS l) k = s0 at *
      generalize hr2 : rkS (faceS l) ((k : Int) + 1) = r2 at *
      generalize hr1 : rkS (faceS l) k = r1 at *
      subst hrr
      generalize O.take k = g at *
      have hw2 : IntKind.i64.wrap ((s0.length : Int) - r1) = s0.length - r1 := wrapI _ (by omega) (by omega)
      have hw3 : IntKind.i64.wrap ((s0.length : Int) - r1 - S.length) = s0.length - r1 - S.length := wrapI _ (by omega) (by omega)
      simp -implicitDefEqProofs [sc_s_FreeHoles_L0, hltF, hw1, hnI, hF1, hF2, hf, hw2, hw3, gl]
      refine ⟨by omega, ?_⟩
      refine Again.of (k + 1) (by omega) (by omega) (SubI.ren (fun m => if m = 0 then some 0 else if m = 1 then some 6 else if m = 2 then some 2 else none) ?_ ?_ ?_ (by simp) (by simp))
      · simp [subT, renV, ren1, hr2]
      · have htk : g.take k = g := List.take_of_length_le (by omega)
        simp [subH, e, renL, ren1, htk]
        rw [← ints_app]
        rfl
      · intro m hm
        simp only at hm
        rw [if_neg (by omega), if_neg (by omega), if_neg (by omega)]
    · have hr0 : rkS (faceS l) ((k : Int) + 1) = 0 := rkS_high _ (by omega)
      have hnI : ¬ ((k : Int) + 1 < (F.length : Int)) := by omega
      rw [hr0, Int.sub_zero] at e
      generalize szS (faceS l) k = s0 at *
      generalize hr1 : rkS (faceS l) k = r1 at *
      generalize O.take k = g at *
      have hw2 : IntKind.i64.wrap ((s0.length : Int) - r1) = s0.length - r1 := wrapI _ (by omega) (by omega)
      simp -implicitDefEqProofs [sc_s_FreeHoles_L0, hltF, hw1, hnI, hf, hw2, gl]
      refine ⟨by omega, ?_⟩
      refine Again.of (k + 1) (by omega) (by omega) (SubI.ren (fun m => if m = 0 then some 0 else if m = 1 then some 4 else if m = 2 then some 2 else none) ?_ ?_ ?_ (by simp) (by simp))
      · simp [subT, renV, ren1, hr0]
      · have htk : g.take k = g := List.take_of_length_le (by omega)
        simp [subH, e, renL, ren1, htk]
        rw [← ints_app]
        rfl
      · intro m hm
        simp only at hm
        rw [if_neg (by omega), if_neg (by omega), if_neg (by omega)]
  · have : k = m := by omega
    subst this
    have htk : O.take k = O := List.take_of_length_le (by omega)
    have hltF : ¬ k < F.length := by omega
    simp -implicitDefEqProofs [sc_s_FreeHoles_L0, hltF, hFl, htk]
    try omega
end Go.Proofs.Ytkoljbncokmeaaa
namespace Go.Proofs.Ytkoljbncokmeaaa
open Go Go.RowKit
set_option maxRecDepth 1000000
set_option linter.unusedSimpArgs false
set_option linter.unusedVariables false
set_option maxHeartbeats 1000000
def sc_i_FreeHoles_L2 : SC := (.seq (.reg [⟨(some 42), none, (.bin false .lss (.t 41) (.t 40))⟩]) (.seq (.cond (.t 42) .skip (.exit 2)) (.seq (.block 3 (.cut (.reg [⟨(some 43), none, (.mov (.t 41))⟩, ⟨(some 7), none, (.mov (.t 43))⟩]) (.dreg [⟨⟨(some 44), none, (.mov (.t 6))⟩, false, true⟩, ⟨⟨(some 45), none, (.mov (.t 3))⟩, false, false⟩, ⟨⟨(some 46), none, (.mov (.t 7))⟩, false, false⟩, ⟨⟨(some 47), none, (.idx 1 (.t 45) (.t 46))⟩, false, false⟩, ⟨⟨(some 48), none, (.ld none .nil (.t 47))⟩, false, false⟩, ⟨⟨(some 49), none, (.len (.t 48))⟩, false, false⟩, ⟨⟨(some 50), none, (.mov (.t 4))⟩, false, false⟩, ⟨⟨(some 51), none, (.mov (.t 7))⟩, false, false⟩, ⟨⟨(some 52), none, (.idx 1 (.t 50) (.t 51))⟩, false, false⟩, ⟨⟨(some 53), none, (.ld none (.int .i64 0) (.t 52))⟩, false, false⟩, ⟨⟨(some 54), none, (.bin false .sub (.t 49) (.t 53))⟩, false, false⟩, ⟨⟨(some 55), none, (.mov (.t 4))⟩, false, false⟩, ⟨⟨(some 56), none, (.mov (.t 7))⟩, false, false⟩, ⟨⟨(some 57), none, (.bin false .add (.t 56) (.c (.int .i64 1)))⟩, false, false⟩, ⟨⟨(some 58), none, (.idx 1 (.t 55) (.t 57))⟩, false, false⟩, ⟨⟨(some 59), none, (.ld none (.int .i64 0) (.t 58))⟩, false, false⟩, ⟨⟨(some 60), none, (.bin false .sub (.t 54) (.t 59))⟩, false, false⟩, ⟨⟨(some 61), none, (.mks 1 1 [(.int .i64 0)] [(0, (1, (.t 60)))])⟩, true, false⟩, ⟨⟨(some 62), none, (.app 1 8 (.t 44) (.t 61))⟩, true, false⟩, ⟨⟨(some 6), none, (.mov (.t 62))⟩, false, false⟩]))) (.reg [⟨(some 63), none, (.bin false .add (.t 41) (.c (.int .i64 1)))⟩, ⟨(some 41), none, (.mov (.t 63))⟩]))))
def sc_i_FreeHoles_L0 : SC := (.cut (.seq (.reg [⟨(some 18), none, (.mov (.t 5))⟩, ⟨(some 19), none, (.mov (.t 3))⟩, ⟨(some 20), none, (.len (.t 19))⟩, ⟨(some 21), none, (.bin false .lss (.t 18) (.t 20))⟩]) (.cond (.t 21) .skip (.exit 0))) (.seq (.block 1 (.dreg [⟨⟨(some 24), none, (.mov (.t 4))⟩, false, false⟩, ⟨⟨(some 25), none, (.mov (.t 5))⟩, false, false⟩, ⟨⟨(some 26), none, (.mov (.t 3))⟩, false, false⟩, ⟨⟨(some 27), none, (.mov (.t 5))⟩, false, false⟩, ⟨⟨(some 28), none, (.bin false .sub (.t 27) (.c (.int .i64 1)))⟩, false, false⟩, ⟨⟨(some 29), none, (.idx 1 (.t 26) (.t 28))⟩, false, false⟩, ⟨⟨(some 30), none, (.ld none .nil (.t 29))⟩, false, false⟩, ⟨⟨(some 31), none, (.mov (.t 3))⟩, false, false⟩, ⟨⟨(some 32), none, (.mov (.t 5))⟩, false, false⟩, ⟨⟨(some 33), none, (.idx 1 (.t 31) (.t 32))⟩, false, false⟩, ⟨⟨(some 34), none, (.ld none .nil (.t 33))⟩, false, false⟩, ⟨⟨(some 35), none, (.call 39 [(.t 30), (.t 34)])⟩, false, false⟩, ⟨⟨(some 36), none, (.call 10 [(.t 35)])⟩, false, false⟩, ⟨⟨(some 37), none, (.len (.t 36))⟩, false, false⟩, ⟨⟨(some 38), none, (.idx 1 (.t 24) (.t 25))⟩, false, false⟩, ⟨⟨none, none, (.st 1 (.t 38) (.t 37))⟩, true, false⟩])) (.reg [⟨(some 22), none, (.mov (.t 5))⟩, ⟨(some 23), none, (.bin false .add (.t 22) (.c (.int .i64 1)))⟩, ⟨(some 5), none, (.mov (.t 23))⟩])))
def sc_i_FreeHoles : SC := (.seq (.reg [⟨(some 1), none, (.box (.t 0))⟩, ⟨(some 2), none, (.mov (.c .nil))⟩]) (.seq (.seq (.reg [⟨(some 8), none, (.ld (some 2) .undef (.t 1))⟩, ⟨(some 9), none, (.call 36 [(.t 8)])⟩, ⟨(some 10), none, (.un .not (.t 9))⟩]) (.cond (.t 10) (.seq (.reg [⟨(some 2), none, (.mov (.c .nil))⟩]) .ret) .skip)) (.seq (.reg [⟨(some 11), none, (.ld (some 2) .undef (.t 1))⟩, ⟨(some 12), none, (.call 38 [(.t 11)])⟩, ⟨(some 13), none, (.call 37 [(.t 12)])⟩, ⟨(some 3), none, (.mov (.t 13))⟩]) (.seq (.reg [⟨(some 14), none, (.mov (.t 3))⟩, ⟨(some 15), none, (.len (.t 14))⟩, ⟨(some 16), none, (.bin false .add (.t 15) (.c (.int .i64 1)))⟩, ⟨(some 17), none, (.mk 1 8 [(.int .i64 0)] (.t 16) (.t 16))⟩, ⟨(some 4), none, (.mov (.t 17))⟩]) (.seq (.seq (.reg [⟨(some 5), none, (.mov (.c (.int .i64 1)))⟩]) (.block 0 (.loop sc_i_FreeHoles_L0))) (.seq (.reg [⟨(some 6), none, (.mov (.c .nil))⟩]) (.seq (.seq (.reg [⟨(some 39), none, (.mov (.t 3))⟩, ⟨(some 40), none, (.len (.t 39))⟩, ⟨(some 41), none, (.mov (.c (.int .i64 0)))⟩]) (.block 2 (.loop sc_i_FreeHoles_L2))) (.seq (.reg [⟨(some 64), none, (.mov (.t 6))⟩, ⟨(some 2), none, (.mov (.t 64))⟩]) .ret))))))))
theorem code_i_FreeHoles : fnCode Try.prog [666666, 555555] 22 = some (65, sc_i_FreeHoles, [(2, none)]) := by kernel_rfl
/-- The ranks of the borders below k, of m + 1 places. -/
noncomputable def rkT (q : Int → Prop) (m k : Nat) : List Int := rowF (m + 1) fun i => @ite _ (i < k) (Classical.propDecidable _) (rkS q i) 0
theorem rkT_set {q : Int → Prop} {m k : Nat} (h : k < m + 1) : (rkT q m k).set k (rkS q k) = rkT q m (k + 1) := by
  unfold rkT
  rw [rowF_set h]
  refine rowF_congr fun i hi => ?_
  by_cases e : i = k
  · rw [if_pos e, if_pos (by omega), e]
  · rw [if_neg e]
    by_cases h3 : i < k
    · rw [if_pos h3, if_pos (by omega)]
    · rw [if_neg h3, if_neg (by omega)]
@[simp] theorem rkT_len (q : Int → Prop) (m k : Nat) : (rkT q m k).length = m + 1 := by simp [rkT]
theorem rkT_one (q : Int → Prop) (m : Nat) : rkT q m 1 = List.replicate (m + 1) 0 := by
  rw [rowF_zero]
  refine rowF_congr fun i _ => ?_
  by_cases h : i < 1
  · have : i = 0 := by omega
    subst this
    rw [if_pos h]
    exact rkS_low q
  · rw [if_neg h]
theorem rkT_at {q : Int → Prop} {m k i : Nat} (ht : topZ q + 1 = m) (hk : m ≤ k) (h : i < m + 1) : at0 (rkT q m k) i = rkS q i := by
  unfold rkT
  rw [rowF_at h]
  by_cases h1 : i < k
  · rw [if_pos h1]
  · rw [if_neg h1, rkS_high q (by omega)]
theorem fn_i_FreeHoles : FnOk Try.prog 22 F_s_FreeHoles := by
  have env := ((((envNil_ok (P := Try.prog)).add fn_i_IsComplex).add fn_i_facesIn).add fn_i_bySize).add fn_i_borderOf |>.add fn_i_SmithOf
  refine fn_ok code_i_FreeHoles mixed env ?_
  intro args r h hb
  obtain ⟨_, ⟨n, l⟩, rfl, h1, h4⟩ := F1_inv h
  cases dC_inv h1
  cases h4
  clear h
  refine ⟨by simp, fun w0 U0 L0 N0 => ?_⟩
  clear hb
  simp only
  cases e0 : cplxB n l with
  | false =>
    have e : frL n l = [] := if_neg fun h => by simp [cplxB_iff.2 h] at e0
    rw [e]
    simp -implicitDefEqProofs [sc_i_FreeHoles, F_s_IsComplex, e0]
  | true =>
  have hc := cplxB_iff.1 e0
  have hS := cplx_isS hc
  have e : frL n l = frZ (faceS l) := if_pos hc
  rw [e]
  obtain ⟨q, hq⟩ : ∃ q, q = faceS l := ⟨_, rfl⟩
  rw [← hq]
  have hg := bySG_fam q
  have htb := topZ_bnd q
  obtain ⟨m, hm⟩ : ∃ m : Nat, topZ q + 1 = m := ⟨(topZ q + 1).toNat, by omega⟩
  have hBl : (bySR q).length = m := by unfold bySR; rw [bySz_len]; omega
  have hBa : ∀ i, i < m → atR (bySR q) i = szS q i := fun i hi => by
    unfold bySR
    exact szS_by (by omega)
  have hres : frZ q = rowF m (frV q) := by
    unfold frZ
    rw [show (topZ q + 1).toNat = m by omega]
  rw [hres]
  have hrl0 : (rowF m (frV q)).length = m := rowF_len _ _
  have hra := fun (i : Nat) (hi : i < m) => rowF_at (g := frV q) hi
  generalize rowF m (frV q) = O at *
  generalize bySR q = B at *
  have hm7 : m ≤ 7 := by omega
  have hw0 : IntKind.i64.wrap ((m : Int) + 1) = ((m + 1 : Nat) : Int) := by rw [wrapI _ (by omega) (by omega)]; omega
  have hF0 : F_i_facesIn [.agg [.int .i64 n, .list 1 (ints l)]] = some (.int .u64 (fam q)) := by
    simp only [F_i_facesIn, F1_mk, dC_agg, Option.bind_some]
    rw [if_pos hS]
    exact hq ▸ rfl
  simp -implicitDefEqProofs [sc_i_FreeHoles, F_s_IsComplex, e0, hF0, F_i_bySize, hg, hBl, hw0]
  repeat' (first | omega | apply And.intro)
  refine loopI env mixed (fun k : Nat => [(3, .sl 0 1 0 m), (4, .sl 1 1 0 (m + 1)), (5, .int .i64 (k : Int))]) (fun k => ([(1, ints (rkT q m k)), (0, rowsV B)], 2)) (fun k => 1 ≤ k ∧ (k ≤ m ∨ k = 1)) (fun k => m - k) 1 ⟨by omega, .inr rfl⟩ (SubI.ren (fun m => if m = 0 then some 1 else if m = 1 then some 2 else none) (by simp [subT, renV, ren1]) (by simp [subH, renL, ren1, rkT_one]) (fun m hm => by simp only at hm; rw [if_neg (by omega), if_neg (by omega)]) (by simp) (by simp)) ?_
  rintro k ⟨hk1, hk2⟩
  by_cases hlt : k < m
  · have hw1 : IntKind.i64.wrap ((k : Int) - 1) = ((k - 1 : Nat) : Int) := by rw [wrapI _ (by omega) (by omega)]; omega
    have hk1m : k - 1 < m := by omega
    have ha1 := hBa k hlt
    have ha2 := hBa (k - 1) hk1m
    rw [show ((k - 1 : Nat) : Int) = (k : Int) - 1 by omega] at ha2
    have hl1 := szS_len q k
    have hl2 := szS_len q ((k : Int) - 1)
    have hF1 : F_i_borderOf [.list 1 (ints (szS q ((k : Int) - 1))), .list 1 (ints (szS q k))] = some (.own 1 (rowsV (sgnM (szS q ((k : Int) - 1)) (szS q k)))) := by
      simp only [F_i_borderOf, F2_mk, dL_list, Option.bind_some]
      rw [if_pos ⟨szS_ok q k, hl2, hl1⟩]
    have hF2 : F_i_SmithOf [.list 1 (rowsL (sgnM (szS q ((k : Int) - 1)) (szS q k)))] = some (.own 1 (ints (bsm (szS q ((k : Int) - 1)) (szS q k)))) := by
      have h1 := (bsm_sz (q := q) (k := k) ⟨by omega, by omega⟩).2
      simp only [F_i_SmithOf, F1_mk, dLL_list, Option.bind_some]
      rw [h1]
      rfl
    have hset := rkT_set (q := q) (m := m) (k := k) (by omega)
    have hrk : rkS q k = ((bsm (szS q ((k : Int) - 1)) (szS q k)).length : Nat) := rfl
    rw [hrk] at hset
    have hrl := rkT_len q m k
    have hne : k - 1 ≠ k := by omega
    have hne2 : k ≠ k - 1 := by omega
    have hs1 := rowsV_self (M := B) (i := k) (by omega)
    have hs2 := rowsV_self (M := B) (i := k - 1) (by omega)
    rw [ha1] at hs1
    rw [ha2] at hs2
    generalize hg1 : rkT q m (k + 1) = g1 at *
    generalize rkT q m k = g at *
    generalize bsm (szS q ((k : Int) - 1)) (szS q k) = S at *
    generalize szS q ((k : Int) - 1) = r1 at *
    generalize szS q k = r2 at *
    have hcell : ((((rowsV B).set (k - 1) (.sl 2 1 0 r1.length)).set k (.sl 3 1 0 r2.length)).set k (.own 1 (ints r2))).set (k - 1) (.own 1 (ints r1)) = rowsV B := by
      rw [List.set_set, List.set_comm _ _ hne2, List.set_set, hs2, hs1]
    simp -implicitDefEqProofs [sc_i_FreeHoles_L0, hlt]
    refine CutI.of (l' := [(3, .sl 0 1 0 m), (4, .sl 1 1 0 (m + 1)), (5, .int .i64 (k : Int))]) (s' := ([(3, ints r2), (2, ints r1), (1, ints g), (0, ((rowsV B).set (k - 1) (.sl 2 1 0 r1.length)).set k (.sl 3 1 0 r2.length))], 4)) ?_ ?_
    · refine SubI.unfold 0 (k - 1) 1 (co := rowsV B) (cn := ints r1) rfl (by rw [rowsV_get (by omega), ha2]) (by omega) ?_
      refine SubI.unfold 0 k 1 (co := (rowsV B).set (k - 1) (.sl 2 1 0 ((ints r1).length / 1))) (cn := ints r2) rfl (by rw [List.getElem?_set_ne hne, rowsV_get (by omega), ha1]) (by omega) ?_
      exact SubI.slots (by simp) (by simp)
    simp -implicitDefEqProofs [freeOk, hlt, hk1m, hw1, hBl, hne, hne2, hF1, hF2, hrl, hset]
    repeat' (first | omega | apply And.intro)
    refine Again.of (k + 1) ⟨by omega, .inl (by omega)⟩ (by omega) ?_
    refine SubI.fold 0 3 k 1 r2.length (cn := ints r2) (co := ((rowsV B).set (k - 1) (.sl 2 1 0 r1.length)).set k (.sl 3 1 0 r2.length)) (by simp) (by simp) (by simp [hBl, hlt]) (by simp) ?_
    refine SubI.fold 0 2 (k - 1) 1 r1.length (cn := ints r1) (co := (((rowsV B).set (k - 1) (.sl 2 1 0 r1.length)).set k (.sl 3 1 0 r2.length)).set k (.own 1 (ints r2))) (by simp) (by simp) (by simp [hBl, hk1m, hne, hne2]) (by simp) ?_
    rw [hcell]
    refine SubI.ren (fun m => if m = 0 then some 0 else if m = 1 then some 1 else none) ?_ ?_ ?_ (by simp) (by simp)
    · simp (disch := omega) [subT, renV, ren1, wrapI]
    · simp [subH, renL, ren1, hg1]
    · intro m hm
      simp only at hm
      rw [if_neg (by omega), if_neg (by omega)]
  · have hat := fun (i : Nat) (hi : i < m + 1) => rkT_at (q := q) (k := k) hm (by omega) hi
    have hrl := rkT_len q m k
    generalize rkT q m k = g at *
    simp -implicitDefEqProofs [sc_i_FreeHoles_L0, hlt]
    repeat' (first | omega | apply And.intro)
    refine loopQ env mixed (fun i : Nat => [(3, .sl 0 1 0 m), (4, .sl 1 1 0 (m + 1)), (6, .sl 2 1 0 i), (40, .int .i64 (m : Int)), (41, .int .i64 (i : Int))]) (fun i => ([(2, ints (O.take i)), (1, ints g), (0, rowsV B)], 3)) (fun i => i ≤ m) (fun i => m - i) 0 (by simp) (SubI.nilN 6 1 (by simp) (SubI.slots (by simp) (by simp))) ?_
    intro i hi
    by_cases hlt2 : i < m
    · have ha1 := hBa i hlt2
      have hl1 := szS_len q i
      have hs1 := rowsV_self (M := B) (i := i) (by omega)
      have h1 := hat i (by omega)
      have h2 := hat (i + 1) (by omega)
      have b1 := rkS_bnd q i
      have b2 := rkS_bnd q ((i + 1 : Nat) : Int)
      have hv : frV q i = ((szS q i).length : Nat) - rkS q i - rkS q ((i + 1 : Nat) : Int) := by
        unfold frV
        rw [show ((i + 1 : Nat) : Int) = (i : Int) + 1 by omega]
      have ez : O.take (i + 1) = O.take i ++ [((szS q i).length : Nat) - rkS q i - rkS q ((i + 1 : Nat) : Int)] := by rw [take_at (by omega), hra i hlt2, hv]
      have gl : (O.take i).length = i := by simp; omega
      rw [ha1] at hs1
      have hw1 : IntKind.i64.wrap ((i : Int) + 1) = ((i + 1 : Nat) : Int) := by rw [wrapI _ (by omega) (by omega)]; omega
      generalize hz1 : O.take (i + 1) = z1 at *
      generalize O.take i = z at *
      generalize szS q i = r1 at *
      generalize rkS q i = k1 at *
      generalize rkS q ((i + 1 : Nat) : Int) = k2 at *
      have hw2 : IntKind.i64.wrap ((r1.length : Int) - k1) = r1.length - k1 := wrapI _ (by omega) (by omega)
      have hw3 : IntKind.i64.wrap ((r1.length : Int) - k1 - k2) = r1.length - k1 - k2 := wrapI _ (by omega) (by omega)
      have hlt3 : i + 1 < m + 1 := by omega
      have hlt4 : i < m + 1 := by omega
      have htk : z.take i = z := List.take_of_length_le (by omega)
      simp -implicitDefEqProofs [sc_i_FreeHoles_L2, hlt2]
      refine CutI.of (l' := [(3, .sl 0 1 0 m), (4, .sl 1 1 0 (m + 1)), (6, .sl 2 1 0 i), (7, .int .i64 (i : Int)), (40, .int .i64 (m : Int)), (41, .int .i64 (i : Int))]) (s' := ([(3, ints r1), (2, ints z), (1, ints g), (0, (rowsV B).set i (.sl 3 1 0 r1.length))], 4)) ?_ ?_
      · refine SubI.unfold 0 i 1 (co := rowsV B) (cn := ints r1) rfl (by rw [rowsV_get (by omega), ha1]) (by omega) ?_
        exact SubI.slots (by simp) (by simp)
      simp -implicitDefEqProofs [freeOk, hlt2, hlt3, hlt4, hBl, hrl, gl, h1, h2, hw1, hw2, hw3, htk]
      repeat' (first | omega | apply And.intro)
      refine Again.of (i + 1) (by omega) (by omega) ?_
      refine SubI.fold 0 3 i 1 r1.length (cn := ints r1) (co := (rowsV B).set i (.sl 3 1 0 r1.length)) (by simp) (by simp) (by simp [hBl, hlt2]) (by simp) ?_
      rw [List.set_set, hs1]
      refine SubI.ren (fun m => if m = 0 then some 0 else if m = 1 then some 1 else if m = 2 then some 5 else none) ?_ ?_ ?_ (by simp) (by simp)
      · simp (disch := omega) [subT, renV, ren1, wrapI]
      · simp [subH, renL, ren1, hz1, ez]
        rw [← ints_app]
        rfl
      · intro m hm
        simp only at hm
        rw [if_neg (by omega), if_neg (by omega), if_neg (by omega)]
    · have : i = m := by omega
      subst this
      have htk : O.take i = O := List.take_of_length_le (by omega)
      rw [htk]
      simp -implicitDefEqProofs [sc_i_FreeHoles_L2, hrl0]
      refine SubQ.of (l1 := [(6, .sl 2 1 0 i)]) (s1 := ([(2, ints O), (1, ints g), (0, rowsV B)], 3)) (SubI.slots rfl (by simp)) ?_
      simp -implicitDefEqProofs [hrl0, htk]
end Go.Proofs.Ytkoljbncokmeaaa
