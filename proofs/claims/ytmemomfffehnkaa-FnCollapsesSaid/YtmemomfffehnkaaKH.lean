import Derived.Test.YtmemomfffehnkaaKP
namespace Go.Proofs.Ytmemomfffehnkaa
open Go Go.RowKit
set_option maxRecDepth 1000000
set_option linter.unusedSimpArgs false
set_option linter.unusedVariables false
set_option maxHeartbeats 1000000
def sc_i_pickSets_L0 : SC := (.seq (.seq (.reg [⟨(some 7), none, (.mov (.t 6))⟩, ⟨(some 8), none, (.mov (.t 0))⟩, ⟨(some 9), none, (.conv .u64 (.t 8))⟩, ⟨(some 10), none, (.bin false .shl (.c (.int .i64 1)) (.t 9))⟩, ⟨(some 11), none, (.bin false .lss (.t 7) (.t 10))⟩]) (.cond (.t 11) .skip (.exit 0))) (.seq (.block 1 (.seq (.reg [⟨(some 14), none, (.mov (.t 1))⟩, ⟨(some 15), none, (.mov (.t 6))⟩, ⟨(some 16), none, (.callv (.t 14) [(.t 15)])⟩]) (.cond (.t 16) (.reg [⟨(some 17), none, (.mov (.t 5))⟩, ⟨(some 18), none, (.mov (.t 6))⟩, ⟨(some 19), none, (.conv .u64 (.t 18))⟩, ⟨(some 20), none, (.bin false .shl (.c (.int .u64 1)) (.t 19))⟩, ⟨(some 21), none, (.bin false .or (.t 17) (.t 20))⟩, ⟨(some 5), none, (.mov (.t 21))⟩]) .skip))) (.reg [⟨(some 12), none, (.mov (.t 6))⟩, ⟨(some 13), none, (.bin false .add (.t 12) (.c (.int .i64 1)))⟩, ⟨(some 6), none, (.mov (.t 13))⟩])))
def sc_i_pickSets : SC := (.seq (.reg [⟨(some 4), none, (.mov (.c (.int .u64 0)))⟩]) (.seq (.reg [⟨(some 5), none, (.mov (.c (.int .u64 0)))⟩]) (.seq (.seq (.reg [⟨(some 6), none, (.mov (.c (.int .i64 0)))⟩]) (.block 0 (.loop sc_i_pickSets_L0))) (.seq (.reg [⟨(some 22), none, (.mov (.t 5))⟩, ⟨(some 4), none, (.mov (.t 22))⟩]) .ret))))
theorem code_i_pickSets : fnCode Try.prog [] 227 = some (23, sc_i_pickSets, [(4, none)]) := by kernel_rfl
/-- The contract of pickSets for one function value. -/
noncomputable def F_i_pickSets (f0 : FuncId) (G : List V → Option V) : List V → Option V
  | [.int .i64 n, .fn f caps] => @ite _ (f = f0 ∧ 0 ≤ n ∧ n ≤ 6 ∧ (∀ H, caps.map (dr H 6) = caps) ∧ ∀ s, 0 ≤ s → s < 2 ^ n.toNat → ∃ b, G (.int .i64 s :: caps) = some (.bool b)) (Classical.propDecidable _)
      (some (.int .u64 (fam fun s => s < 2 ^ n.toNat ∧ G (.int .i64 s :: caps) = some (.bool true)))) none
  | _ => none
theorem fn_i_pickSets {f0 : FuncId} {G : List V → Option V} (hf : FnOk Try.prog f0 G) : FnOk Try.prog 227 (F_i_pickSets f0 G) := by
  have env := (envNil_ok (P := Try.prog)).add hf
  refine fn_ok code_i_pickSets mixed env ?_
  intro args r h hb
  unfold F_i_pickSets at h
  split at h
  case h_2 => simp at h
  rename_i n f caps
  simp only [Option.ite_none_right_eq_some, Option.some.injEq] at h
  obtain ⟨⟨rfl, hn0, hn6, hcaps, hG⟩, rfl⟩ := h
  obtain ⟨m, rfl⟩ : ∃ m : Nat, n = m := ⟨n.toNat, by omega⟩
  simp only [Int.toNat_natCast] at *
  have hm : m ≤ 6 := by omega
  have hu : IntKind.u64.wrap (m : Int) = m := wrapU _ (by omega) (by omega)
  have hsh : IntKind.i64.wrap (2 ^ min m IntKind.i64.bits) = 2 ^ m := by
    have : ∀ i : Nat, i ≤ 6 → IntKind.i64.wrap (2 ^ min i IntKind.i64.bits) = 2 ^ i := by decide +kernel
    exact this m hm
  have hp : ∃ M : Nat, M ≤ 64 ∧ (2 : Int) ^ m = M := ⟨2 ^ m, by have : 2 ^ m ≤ 2 ^ 6 := Nat.pow_le_pow_right (by omega) hm; omega, by simp⟩
  refine ⟨by simp, fun w0 U0 L0 N0 => ?_⟩
  have e0 : (0 : Int) = fam fun s => s < ((0 : Nat) : Int) ∧ G (.int .i64 s :: caps) = some (.bool true) := (fam_zero.2 fun u hu h => by have := hu.1; have := h.1; omega).symm
  generalize (2 : Int) ^ m = P2 at *
  obtain ⟨M, hM, rfl⟩ := hp
  simp -implicitDefEqProofs [sc_i_pickSets]
  refine loopI env mixed (fun k : Nat => [(0, .int .i64 (m : Int)), (1, .fn f caps), (5, .int .u64 (fam fun s => s < (k : Int) ∧ G (.int .i64 s :: caps) = some (.bool true))), (6, .int .i64 (k : Int))]) (fun _ => ([], 0)) (fun k => k ≤ M) (fun k => M - k) 0 (by simp) (SubI.slots rfl (by simp only [subE_cons, subE_nil, ← e0]; simp)) ?_
  intro k hk
  by_cases hlt : k < M
  · have hkS := inS k (by omega)
    have hu2 := wrapS hkS
    have h1 := fam_one hkS
    simp only [Int.toNat_natCast] at h1
    have p0 : (0 : Int) ≤ k := by omega
    obtain ⟨b, hb⟩ := hG k (by omega) (by omega)
    have hcl := hcaps []
    cases b with
    | true =>
      have e : (fam fun s => (s < (k : Int) ∧ G (.int .i64 s :: caps) = some (.bool true)) ∨ s = (k : Int)) = fam fun s => s < ((k + 1 : Nat) : Int) ∧ G (.int .i64 s :: caps) = some (.bool true) := by
        refine fam_congr fun s hs => ⟨?_, fun h => ?_⟩
        · rintro (h | rfl)
          · exact ⟨by omega, h.2⟩
          · exact ⟨by omega, hb⟩
        · by_cases a : s = (k : Int)
          · exact .inr a
          · exact .inl ⟨by have := h.1; omega, h.2⟩
      simp -implicitDefEqProofs [sc_i_pickSets_L0, hu, hsh, hlt, hcl, hb, hu2, h1]
      repeat' (first | omega | apply And.intro)
      exact Again.of (k + 1) (by omega) (by omega) (SubI.slots rfl (by simp (disch := omega) only [subE_cons, subE_nil, ← e]; simp (disch := omega) [wrapI]))
    | false =>
      have e : (fam fun s => s < (k : Int) ∧ G (.int .i64 s :: caps) = some (.bool true)) = fam fun s => s < ((k + 1 : Nat) : Int) ∧ G (.int .i64 s :: caps) = some (.bool true) := by
        refine fam_congr fun s hs => ⟨fun h => ⟨by omega, h.2⟩, fun h => ⟨?_, h.2⟩⟩
        by_cases a : s = (k : Int)
        · rw [a, hb] at h; simp at h
        · have := h.1; omega
      simp -implicitDefEqProofs [sc_i_pickSets_L0, hu, hsh, hlt, hcl, hb]
      repeat' (first | omega | apply And.intro)
      exact Again.of (k + 1) (by omega) (by omega) (SubI.slots rfl (by simp (disch := omega) only [subE_cons, subE_nil, ← e]; simp (disch := omega) [wrapI]))
  · have : k = M := by omega
    subst this
    simp -implicitDefEqProofs [sc_i_pickSets_L0, hu, hsh]
end Go.Proofs.Ytmemomfffehnkaa
