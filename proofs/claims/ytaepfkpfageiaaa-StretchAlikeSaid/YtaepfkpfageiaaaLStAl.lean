/- The walk of StretchAlike. -/
import Derived.Test.YtaepfkpfageiaaaStrAw
import Derived.Test.YtaepfkpfageiaaaGRsL
import Derived.Test.YtaepfkpfageiaaaGTabE
namespace Go.Proofs.Ytaepfkpfageiaaa
open Go Go.RowKit

theorem uS_same (p q salt : List UInt8) (i : Nat) (h : ∀ t, macS p t = macS q t) : ∀ r, uS p salt i r = uS q salt i r
  | 0 => h _
  | r + 1 => by rw [uS, uS, uS_same p q salt i h r]; exact h _
theorem tS_same (p q salt : List UInt8) (i : Nat) (h : ∀ t, macS p t = macS q t) : ∀ r, tS p salt i r = tS q salt i r
  | 0 => uS_same p q salt i h 0
  | r + 1 => by rw [tS, tS, tS_same p q salt i h r, uS_same p q salt i h (r + 1)]
theorem keyB_same (p q salt : List UInt8) (r : Nat) (h : ∀ t, macS p t = macS q t) : ∀ n, keyB p salt r n = keyB q salt r n
  | 0 => rfl
  | n + 1 => by rw [keyB, keyB, keyB_same p q salt r h n, tS_same p q salt (n + 1) h r]
theorem keyS_same (p q salt : List UInt8) (r n : Nat) (h : ∀ t, macS p t = macS q t) : keyS p salt r n = keyS q salt r n := by
  unfold keyS; rw [keyB_same p q salt r h]
theorem keyN_zeros (key : List UInt8) (n : Nat) (h : key.length + n ≤ 64) : keyN (key ++ List.replicate n 0) = keyN key := by
  have a : ¬ 64 < (key ++ List.replicate n (0 : UInt8)).length := by simp; omega
  have b : ¬ 64 < key.length := by omega
  unfold keyN
  rw [if_neg a, if_neg b, List.append_assoc, List.length_append, List.length_replicate, List.replicate_append_replicate]
  congr 2
  omega
theorem macS_zeros (key : List UInt8) (n : Nat) (h : key.length + n ≤ 64) (t : List UInt8) : macS (key ++ List.replicate n 0) t = macS key t := by
  unfold macS inK outK; rw [keyN_zeros key n h]

set_option maxRecDepth 100000 in
set_option maxHeartbeats 2000000 in
theorem strAlW (a0 : Option Addr) (c0 : Nat) (pass : List UInt8) (a1 : Option Addr) (c1 : Nat) (salt : List UInt8) (nz : Int) (w : World) (s0 : Sl w 1 a0 pass.length c0 (pass.map B)) (s1 : Sl w 1 a1 salt.length c1 (salt.map B)) (_ : (Lit.int IntKind.i64 nz).wf = true)
    (R : Ending → World → Prop) (hR : ∀ w', Grow w w' → R (.returned (.bool true)) w') :
    Calls Try.prog 12 #[.slice a0 pass.length c0, .slice a1 salt.length c1, .int .i64 nz] w R := by
  have hml : maxLen = 9223372036854775807 := rfl
  have haw := awake3C
  have hm0 := s0.hcap
  have hn0 := s0.hle
  have hm1 := s1.hcap
  have hn1 := s1.hle
  by_cases hx1 : 128 < pass.length
  · go_enter Try.func12, Try.ntmps12
    go_wp2_with fail
    refine haw _ _ ?_
    intro w2 g2
    have hf := hR w2 g2
    clear hR
    go_wp2_with fail
    exact hf
  have hg1 : decide (128 < (pass.length : Int)) = false := decide_eq_false (by omega)
  by_cases hx2 : 64 < salt.length
  · go_enter Try.func12, Try.ntmps12
    go_wp2_with fail
    refine haw _ _ ?_
    intro w2 g2
    have hf := hR w2 g2
    clear hR
    go_wp2_with fail
    exact hf
  have hg2 : decide (64 < (salt.length : Int)) = false := decide_eq_false (by omega)
  by_cases hx3 : nz < 0
  · go_enter Try.func12, Try.ntmps12
    go_wp2_with fail
    refine haw _ _ ?_
    intro w2 g2
    have hf := hR w2 g2
    clear hR
    go_wp2_with fail
    exact hf
  have hg3 : decide (nz < 0) = false := decide_eq_false (by omega)
  by_cases hx4 : 64 < nz
  · go_enter Try.func12, Try.ntmps12
    go_wp2_with fail
    refine haw _ _ ?_
    intro w2 g2
    have hf := hR w2 g2
    clear hR
    go_wp2_with fail
    exact hf
  have hg4 : decide (64 < nz) = false := decide_eq_false (by omega)
  obtain ⟨z, rfl⟩ : ∃ i : Nat, nz = (i : Int) := ⟨nz.toNat, by omega⟩
  have hz : z ≤ 64 := by omega
  have hmay : ∀ n, n ≤ 128 → mayB n salt.length ((1 : Nat) + 1) = true := fun n h => decide_eq_true ⟨h, by omega, by decide, by decide⟩
  have hA := fun po pc q w' sp s (hq : q.length ≤ 128) => strKeyOk po pc q a1 salt.length c1 salt 1 40 w' sp s (hmay _ hq) (by omega)
  rw [show ((40 : Nat) : Int) = 40 from rfl, show ((1 : Nat) : Int) + 1 = 2 from rfl] at hA
  have c3 := hA a0 c0 pass w s0 s1 (by omega)
  have hlen : Hid (pass.length ≤ 128) := Lib.hid (by omega)
  obtain ⟨K, hK⟩ : ∃ K, K = keyS pass salt 1 40 := ⟨_, rfl⟩
  rw [← hK] at c3
  have HK := Lib.hid hK
  obtain ⟨N, hN⟩ : ∃ N, N = pass.length := ⟨_, rfl⟩
  obtain ⟨M, hM⟩ : ∃ N, N = salt.length := ⟨_, rfl⟩
  have hsumP := fun p bo c w sm sb => rSumC p Hs Ks (fun x hx => Hs_lt x hx) bo c pass w sm sb (by omega)
  have hdef : ∀ l, sumOf Hs Ks l = sumS l := fun l => rfl
  simp only [hdef] at hsumP
  have hnew := rNewC
  generalize Hs = H at *
  generalize Ks = KK at *
  rw [← hN] at s0 hg1 c3 hsumP ⊢
  rw [← hM] at s1 hg2 c3 hA ⊢
  have hNl : N ≤ 128 := by omega
  have HN := Lib.hid hN
  clear hN hM hK hmay hx1 hx2 hx3 hx4 hm0 hm1 hn0 hn1 hdef
  go_enter Try.func12, Try.ntmps12
  go_wp2_with fail
  refine c3 _ ?_
  clear hg1 hg2 hg3 hg4 c3
  intro ao c w1 oa g1 _
  have sa := oa.sl
  have s01 := s0.grow g1
  have s11 := s1.grow g1
  clear oa s0 s1
  have hKK : (K == K) = true := by simp
  have hst : (str K).toList = K := str_toList _
  by_cases h64 : 64 < N
  · have hsm := keyS_same (sumS pass) pass salt 1 40 (fun t => macS_long pass t (by have := HN.out; omega))
    have hS32 := sumS_len pass
    obtain ⟨S1, hS1⟩ : ∃ S, S = sumS pass := ⟨_, rfl⟩
    rw [← hS1] at hsumP hsm hS32
    have hVl : (S1.map B).length = 32 := by rw [List.length_map]; exact hS32
    obtain ⟨V, hV⟩ : ∃ V, V = S1.map B := ⟨_, rfl⟩
    have hV1 : ∀ v ∈ V, v.oneCell' = true := by rw [hV]; exact B_one _
    simp only [← hV] at hsumP hVl
    have i32 : (Try.prog.info? 27).map (·.size) = some 32 := by kernel_rfl
    have hA2 := fun po pc w' sp s => hA po pc S1 w' sp s (by omega)
    rw [hsm, ← HK.out, hS32] at hA2
    have HV := Lib.hid hV
    clear hA hS1 hV hsm hS32
    go_wp2_with fail
    refine hnew _ _ ?_
    intro p w2 sm g2 _
    have c5 := hsumP p a0 c0 w2 sm (s01.grow g2)
    have G2 := g1.trans g2
    have s12 := s11.grow g2
    have sa2 := sa.grow g2
    clear hnew hsumP g1 g2 sm s01 s11 sa
    go_wp2_with fail
    refine c5 _ ?_
    clear c5
    intro w3 g3
    have G3 := G2.trans g3
    have s13 := s12.grow g3
    have sa3 := sa2.grow g3
    clear G2 g3 s12 sa2
    obtain ⟨o9, ga1, th1, al1⟩ := newvar (t := 27) w3 (.int .u8 0) rfl (by omega) hVl hV1
    have hszF : (Try.prog.info? 27).map (·.size) = some V.toArray.size := by rw [List.size_toArray, hVl]; exact i32
    go_upto_region 8 with (refine wpList_store_mid rfl 27 _ _ rfl w3.heap.size 0 V.toArray rfl rfl th1 hszF al1 ?_)
    change Code.wp _ _ _ ⟨_, _⟩ ((w3.alloc (.cells (List.replicate 32 (.int .u8 0)).toArray 27)).setCells w3.heap.size 0 V)
    have G4 := G3.trans ga1
    have s14 := s13.grow ga1
    have sa4 := sa3.grow ga1
    obtain ⟨q9, hq⟩ : ∃ q, q = w3.heap.size := ⟨_, rfl⟩
    generalize (w3.alloc (.cells (List.replicate 32 (.int .u8 0)).toArray 27)).setCells w3.heap.size 0 V = w4 at *
    rw [← hq] at o9 ⊢
    have hge_q9 : w3.heap.size ≤ q9 := by omega
    clear hq th1 al1 ga1 hszF G3 s13 sa3
    have so := o9.sl
    rw [HV.out] at so
    have c6 := hA2 (some ⟨q9, 0, none⟩) 32 w4 so s14
    clear hA2 so o9
    go_wp2_with fail
    refine c6 _ ?_
    clear c6
    intro bo d w5 ob g5 _
    have cv1 : (convert 22 9 (.slice ao 40 c)).run Try.prog w5 = .ok (.string (str K)) w5 := run_str (d := 9) Try.underlying22 Try.underlying5 Try.underlying9 (sa4.grow g5)
    have cv2 : (convert 22 9 (.slice bo 40 d)).run Try.prog w5 = .ok (.string (str K)) w5 := run_str (d := 9) Try.underlying22 Try.underlying5 Try.underlying9 ob.sl
    have G5 := G4.trans g5
    clear sa4 s14 ob G4 g5 HK
    go_wp2_with fail
    refine haw _ _ ?_
    intro w6 g6
    have hf := hR _ (G5.trans g6)
    clear hR
    go_wp2_with fail
    exact hf
  · have hk : ∃ k : Nat, k = min z (64 - N) := ⟨_, rfl⟩
    obtain ⟨k, hk⟩ := hk
    have hkl : N + k ≤ 64 := by omega
    have hmin : (if 64 - (N : Int) < (z : Int) then 64 - (N : Int) else (z : Int)) = (k : Int) := by split <;> omega
    have Hmin := Lib.hid hmin
    have hd3 : decide (64 < (N : Int)) = false := decide_eq_false (by omega)
    have hsm := keyS_same (pass ++ List.replicate k 0) pass salt 1 40 (fun t => macS_zeros pass k (by have := HN.out; omega) t)
    have hA2 := fun po pc w' sp s => hA po pc (pass ++ List.replicate k 0) w' sp s (by simp; have := HN.out; omega)
    rw [hsm, ← HK.out, List.length_append, List.length_replicate, ← HN.out] at hA2
    clear hA hsm hk hsumP hnew hmin
    go_upto_region 11 with (fail)
    rw [Hmin.out]
    clear hd3 Hmin
    have o0 : Own (w1.alloc (.cells #[] 5)) 5 1 (some ⟨w1.heap.size, 0, none⟩) 0 0 [] := Own.made (n := 0) (heap_alloc_new w1 _) rfl (by decide) (by simp)
    have g0 := Grow.alloc w1 (.cells #[] 5)
    go_wp2_with (first
      | (at_builtin
         refine wpList_app TBy rfl rfl o0 (s01.grow g0) (by omega) (by omega) ?_
         intro ao1 cap1 wx o7 _ kp blk1
         simp only [Nat.zero_add, List.nil_append] at o7
         have f7 : Fr (blk ao1) w1 := fun y hy => by
           rcases blk1 y hy with h | h
           · simp [blk] at h; omega
           · simp at h; omega
         have g2 : Grow w1 wx := g0.then kp (fun y hy => by simp [blk] at hy; omega)
         obtain ⟨ao2, cap2, w3, hr, s2, k2⟩ := run_appZ wx o7 k (by omega)
         have g3 : Grow w1 w3 := g2.then k2 f7
         clear o0 g0 kp blk1 o7 f7 g2 k2)
      | (at_builtin
         refine wpList_appendL rfl rfl hr ?_
         simp only [List.set_cons_succ, List.set_cons_zero]))
    have c6 := hA2 ao2 cap2 w3 s2 (s11.grow g3)
    have sa4 := sa.grow g3
    have G4 := g1.trans g3
    clear hA2 s2 s11 s01 g1 g3 hr
    refine c6 _ ?_
    clear c6
    intro bo d w5 ob g5 _
    have cv1 : (convert 22 9 (.slice ao 40 c)).run Try.prog w5 = .ok (.string (str K)) w5 := run_str (d := 9) Try.underlying22 Try.underlying5 Try.underlying9 (sa4.grow g5)
    have cv2 : (convert 22 9 (.slice bo 40 d)).run Try.prog w5 = .ok (.string (str K)) w5 := run_str (d := 9) Try.underlying22 Try.underlying5 Try.underlying9 ob.sl
    have G5 := G4.trans g5
    clear sa4 ob G4 g5 HK
    go_wp2_with fail
    refine haw _ _ ?_
    intro w6 g6
    have hf := hR _ (G5.trans g6)
    clear hR
    go_wp2_with fail
    exact hf
end Go.Proofs.Ytaepfkpfageiaaa
