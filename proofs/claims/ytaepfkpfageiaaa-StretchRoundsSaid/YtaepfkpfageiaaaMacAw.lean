/- awake of law 2. -/
import Derived.Test.YtaepfkpfageiaaaMacQ
import Derived.Test.YtaepfkpfageiaaaMacG
import Derived.Test.YtaepfkpfageiaaaGSha2
import Derived.Test.YtaepfkpfageiaaaGNew
import Derived.Test.YtaepfkpfageiaaaGTab
import Derived.Test.YtaepfkpfageiaaaShaM2
import Derived.Deep.DeepCutAuto
import Derived.Lib.SlBytesConst
namespace Go.Proofs.Ytaepfkpfageiaaa
open Go Go.RowKit

/-- Two texts laid as they stand. -/
theorem lits2 (w : World) (l m : List UInt8) (n k : Nat) (hn : l.length = n) (hk : m.length = k) (hn' : n ≤ 100000) (hk' : k ≤ 100000) (fa fc : Nat × Nat) :
    Sl ((w.alloc (.cells (l.map B).toArray 5 fa)).alloc (.cells (m.map B).toArray 5 fc)) 1 (some ⟨w.heap.size, 0, none⟩) n n (l.map B) ∧
    Sl ((w.alloc (.cells (l.map B).toArray 5 fa)).alloc (.cells (m.map B).toArray 5 fc)) 1 (some ⟨w.heap.size + 1, 0, none⟩) k k (m.map B) ∧
    Grow w ((w.alloc (.cells (l.map B).toArray 5 fa)).alloc (.cells (m.map B).toArray 5 fc)) := by
  have hml : maxLen = 9223372036854775807 := rfl
  have h := alloc_new (w.alloc (.cells (l.map B).toArray 5 fa)) (.cells (m.map B).toArray 5 fc)
  rw [sz_al] at h
  exact ⟨sl_obj (C := l.map B) (alloc_old _ _ _ (alloc_new w _)) n (by simpa using hn) (by omega) (B_one _), sl_obj (C := m.map B) h k (by simpa using hk) (by omega) (B_one _), (Grow.alloc w _).trans (Grow.alloc _ _)⟩
theorem parts2 (w : World) (l m : List UInt8) (n k : Nat) (hn : l.length = n) (hk : m.length = k) (hn' : n ≤ 100000) (hk' : k ≤ 100000) (fa fc fe : Nat × Nat) :
    Sl (((w.alloc (.cells (l.map B).toArray 5 fa)).alloc (.cells (m.map B).toArray 5 fc)).alloc (.cells #[.slice (some ⟨w.heap.size, 0, none⟩) n n, .slice (some ⟨w.heap.size + 1, 0, none⟩) k k] 22 fe)) 1 (some ⟨w.heap.size + 1 + 1, 0, none⟩) 2 2 [.slice (some ⟨w.heap.size, 0, none⟩) n n, .slice (some ⟨w.heap.size + 1, 0, none⟩) k k] ∧
    Pt (((w.alloc (.cells (l.map B).toArray 5 fa)).alloc (.cells (m.map B).toArray 5 fc)).alloc (.cells #[.slice (some ⟨w.heap.size, 0, none⟩) n n, .slice (some ⟨w.heap.size + 1, 0, none⟩) k k] 22 fe)) [.slice (some ⟨w.heap.size, 0, none⟩) n n, .slice (some ⟨w.heap.size + 1, 0, none⟩) k k] [l, m] ∧
    Grow w (((w.alloc (.cells (l.map B).toArray 5 fa)).alloc (.cells (m.map B).toArray 5 fc)).alloc (.cells #[.slice (some ⟨w.heap.size, 0, none⟩) n n, .slice (some ⟨w.heap.size + 1, 0, none⟩) k k] 22 fe)) := by
  obtain ⟨sa, sb, g⟩ := lits2 w l m n k hn hk hn' hk' fa fc
  have h := alloc_new ((w.alloc (.cells (l.map B).toArray 5 fa)).alloc (.cells (m.map B).toArray 5 fc)) (.cells #[.slice (some ⟨w.heap.size, 0, none⟩) n n, .slice (some ⟨w.heap.size + 1, 0, none⟩) k k] 22 fe)
  rw [sz_al, sz_al] at h
  have ge := Grow.alloc ((w.alloc (.cells (l.map B).toArray 5 fa)).alloc (.cells (m.map B).toArray 5 fc)) (.cells #[.slice (some ⟨w.heap.size, 0, none⟩) n n, .slice (some ⟨w.heap.size + 1, 0, none⟩) k k] 22 fe)
  refine ⟨sl_obj (C := [.slice (some ⟨w.heap.size, 0, none⟩) n n, .slice (some ⟨w.heap.size + 1, 0, none⟩) k k]) h 2 rfl (by decide) (by simp [Value.oneCell']), ?_, g.trans ge⟩
  subst hn hk
  exact two_parts (sa.grow ge) (sb.grow ge)

set_option maxRecDepth 100000 in
set_option maxHeartbeats 1000000 in
theorem awakeC (w : World) (R : Ending → World → Prop) (hR : ∀ w', Grow w w' → R (.returned (.bool true)) w') :
    Calls Try.prog 21 #[] w R := by
  have hml : maxLen = 9223372036854775807 := rfl
  have kc := fun (w : World) (C : Array Value) (n c : Nat) => Lib.run_convert_bytes_const (P := Try.prog) w 22 5 C n c Try.underlying22 Try.underlying5
  have kc2 : ∀ (w : World) (o : Obj) (C : Array Value) (n c : Nat), (convert 22 22 (.slice (some ⟨w.heap.size + 1, 0, none⟩) n c)).run Try.prog ((w.alloc o).alloc (.cells C 5)) = .ok (.slice (some ⟨w.heap.size + 1, 0, none⟩) n c) ((w.alloc o).alloc (.cells C 5 (C.size, C.size + 1))) := fun w o C n c => by
    have := kc (w.alloc o) C n c
    rwa [sz_al] at this
  have mk : ∀ w : World, (Instr.makeSlice 22 (.int .i64 20) (.int .i64 20)).run Try.prog w = .ok (.slice (some ⟨w.heap.size, 0, none⟩) 20 20) (w.alloc (.cells (List.replicate 20 (.int .u8 0)).toArray 5)) := make_bytes 20 (by decide)
  have o0 := own_new (t := 5) (n := 20) w (.int .u8 0) rfl (by decide)
  have g0 := Grow.alloc w (.cells (List.replicate 20 (.int .u8 0)).toArray 5)
  obtain ⟨q, hq⟩ : ∃ q, q = w.heap.size := ⟨_, rfl⟩
  go_enter Try.func21, Try.ntmps21
  go_upto_block 0 with (fail)
  refine wp_block ?_
  change Code.wp _ _ _ ⟨_, _⟩ (w.alloc (.cells (List.replicate 20 (.int .u8 0)).toArray 5))
  generalize w.alloc (.cells (List.replicate 20 (.int .u8 0)).toArray 5) = w1 at *
  rw [← hq] at o0 ⊢
  have Hq := Lib.hid hq
  clear hq mk
  go_loopw [2] (fun vi wr => ∃ i : Nat, vi = .int .i64 (i : Int) ∧ i ≤ 20 ∧ Own wr 5 1 (some ⟨q, 0, none⟩) 20 20 (List.replicate i (.int .u8 11) ++ List.replicate (20 - i) (.int .u8 0)) ∧ Keep [q] w1 wr) (fun vi _ => 20 - (intOf vi).toNat)
  case atStart => exact ⟨0, by simp, by omega, by simpa using o0, Keep.refl _ _⟩
  case round =>
    clear o0
    obtain ⟨i, rfl, hi, oi, ki⟩ := hrel
    by_cases hlt : i < 20
    · obtain ⟨g3, v, eg, hv, hfz, hset⟩ := own_put oi (i := i) (by omega)
      cases eg
      have hn := hset (.int .u8 11) rfl
      have e : (List.replicate i (Value.int .u8 11) ++ List.replicate (20 - i) (Value.int .u8 0)).set i (Value.int .u8 11) = List.replicate (i + 1) (Value.int .u8 11) ++ List.replicate (20 - (i + 1)) (Value.int .u8 0) := by
        rw [List.set_append_right _ _ (by simp)]
        obtain ⟨k, hk⟩ : ∃ k, 20 - i = k + 1 := ⟨20 - i - 1, by omega⟩
        rw [hk, show 20 - (i + 1) = k by omega, List.replicate_succ, List.length_replicate, Nat.sub_self, List.set_cons_zero, List.replicate_succ' (n := i)]
        simp
      rw [e] at hn
      have gn := ki.trans (Keep.setCell (fp := [q]) wr ⟨q, i, none⟩ (by simp) (.int .u8 11))
      clear hset e oi ki hR
      go_wp2_with fail
      go_roundw
      case rel => exact ⟨i + 1, by go_num, by omega, hn, gn⟩
      case measure => simp [intOf]; omega
    · obtain rfl : i = 20 := by omega
      have ok : Own wr 5 1 (some ⟨q, 0, none⟩) mK0.length 20 (mK0.map B) := by
        simpa [mK0, B] using oi
      have g2 : Grow w wr := g0.then ki (fun x hx => by simp at hx; have := Hq.out; omega)
      clear oi ki g0 Hq
      have hms := fun w' sk s pt => macTop (some ⟨q, 0, none⟩) 20 mK0 (some ⟨wr.heap.size + 1 + 1, 0, none⟩) 2 [.slice (some ⟨wr.heap.size, 0, none⟩) 3 3, .slice (some ⟨wr.heap.size + 1, 0, none⟩) 5 5] [[72, 105, 32], [84, 104, 101, 114, 101]] w' sk (by decide) s pt (by decide) (by decide)
      have e1 : macS mK0 ([[72, 105, 32], [84, 104, 101, 114, 101]] : List (List UInt8)).flatten = mS0 := mn0
      rw [e1] at hms
      obtain ⟨F, hF⟩ : ∃ F, F = mS0.map B := ⟨_, rfl⟩
      have hFl : F.length = 32 := by rw [hF]; rfl
      have hF1 : ∀ v ∈ F, v.oneCell' = true := by rw [hF]; exact B_one _
      have ht := rTextC mS0 rfl
      rw [mx0] at ht
      have hsh := shortMC mS0 rfl
      obtain ⟨G, hG⟩ : ∃ G, G = (shortS mS0).map B := ⟨_, rfl⟩
      have hGl : G.length = 16 := by rw [hG]; rfl
      have hG1 : ∀ v ∈ G, v.oneCell' = true := by rw [hG]; exact B_one _
      have hG0 : G[0]? = some (.int .u8 176) := by rw [hG]; rfl
      simp only [← hF, ← hG] at hms ht hsh
      have i32 : (Try.prog.info? 27).map (·.size) = some 32 := by kernel_rfl
      have i16 : (Try.prog.info? 34).map (·.size) = some 16 := by kernel_rfl
      have hszF : (Try.prog.info? 27).map (·.size) = some F.toArray.size := by rw [List.size_toArray, hFl]; exact i32
      have hiF : (Try.prog.info? 27).map (·.size) = some F.length := by rw [hFl]; exact i32
      have hszG : (Try.prog.info? 34).map (·.size) = some G.toArray.size := by rw [List.size_toArray, hGl]; exact i16
      obtain ⟨ps, pp, pg⟩ := parts2 wr [72, 105, 32] [84, 104, 101, 114, 101] 3 5 rfl rfl (by decide) (by decide) (3, 4) (5, 6) (0, 0)
      have hcl := hms _ (ok.sl.grow pg) ps pp
      have G1 := g2.trans pg
      clear hF hG hms ps pp pg ok e1 g2
      go_wp2_with fail
      refine hcl _ ?_
      clear hcl
      intro w3 g3
      have G3 := G1.trans g3
      clear G1 g3
      obtain ⟨o1, ga1, th1, al1⟩ := newvar (t := 27) w3 (.int .u8 0) rfl (by omega) hFl hF1
      go_upto_region 7 with (refine wpList_store_mid rfl 27 _ _ rfl w3.heap.size 0 F.toArray rfl rfl th1 hszF al1 ?_)
      change Code.wp _ _ _ ⟨_, _⟩ ((w3.alloc (.cells (List.replicate 32 (.int .u8 0)).toArray 27)).setCells w3.heap.size 0 F)
      have G4 := G3.trans ga1
      obtain ⟨q1, hq1⟩ : ∃ q, q = w3.heap.size := ⟨_, rfl⟩
      clear th1 al1 ga1 G3
      generalize (w3.alloc (.cells (List.replicate 32 (.int .u8 0)).toArray 27)).setCells w3.heap.size 0 F = w4 at *
      rw [← hq1] at o1 ⊢
      clear hq1
      have r1 := own_range o1 (by omega)
      go_wp2_with (refine wpList_load_mid rfl 27 _ rfl q1 0 rfl F _ r1 Try.underlying27 rfl hiF ?_)
      refine hsh _ _ ?_
      clear hsh r1
      intro w5 g5
      have G5 := G4.trans g5
      have p1 := o1.grow g5
      clear G4 o1 g5
      obtain ⟨o2, ga2, th2, al2⟩ := newvar (t := 34) w5 (.int .u8 0) rfl (by omega) hGl hG1
      have p2 := p1.grow ga2
      have G6 := G5.trans ga2
      clear p1 G5
      go_upto_region 8 with (refine wpList_store_mid rfl 34 _ _ rfl w5.heap.size 0 G.toArray rfl rfl th2 hszG al2 ?_)
      change Code.wp _ _ _ ⟨_, _⟩ ((w5.alloc (.cells (List.replicate 16 (.int .u8 0)).toArray 34)).setCells w5.heap.size 0 G)
      obtain ⟨q2, hq2⟩ : ∃ q, q = w5.heap.size := ⟨_, rfl⟩
      clear th2 al2 ga2
      generalize (w5.alloc (.cells (List.replicate 16 (.int .u8 0)).toArray 34)).setCells w5.heap.size 0 G = w6 at *
      rw [← hq2] at o2 ⊢
      clear hq2
      have r2 := own_range p2 (by omega)
      have hst : (str mX0).toList = mX0 := str_toList _
      unfold mX0 at hst
      go_wp2_with (refine wpList_load_mid rfl 27 _ rfl q1 0 rfl F _ r2 Try.underlying27 rfl hiF ?_)
      refine ht _ _ ?_
      clear ht r2
      intro w7 g7
      have G7 := G6.trans g7
      obtain ⟨g', off', eg, hcs⟩ := (o2.grow g7).sl.hat (by omega)
      cases eg
      have ca := hcs.at hG0
      simp only [Nat.add_zero] at ca
      have hkk2 : ∀ l, l = mX0 → (mX0 == l) = true := fun l e => by subst e; simp
      obtain ⟨sa, sb, gab⟩ := lits2 w7 [97] [97] 1 1 rfl rfl (by decide) (by decide) (1, 2) (1, 2)
      have he := equalC _ 1 [97] _ 1 [97] _ sa sb
      have G8 := G7.trans gab
      clear hcs G6 g7 o2 p2 sa sb gab G7
      go_wp2_with fail
      refine he _ ?_
      clear he ca hst hkk2
      intro w8 g8
      have G9 := G8.trans g8
      have d1 : (([97] : List UInt8) == [97]) = true := by decide
      have d2 : (([97] : List UInt8) == [97, 98]) = false := by decide
      have d3 : (([] : List UInt8) == []) = true := by decide
      simp only [d1]
      obtain ⟨sa, sb, gab⟩ := lits2 w8 [97] [97, 98] 1 2 rfl rfl (by decide) (by decide) (1, 2) (2, 3)
      have he := equalC _ 1 [97] _ 2 [97, 98] _ sa sb
      have G10 := G9.trans gab
      clear g8 sa sb gab G8 G9
      go_wp2_with fail
      refine he _ ?_
      clear he
      intro w9 g9
      simp only [d2]
      have G11 := G10.trans g9
      have he := equalC none 0 [] none 0 [] w9 (Sl.none w9 1) (Sl.none w9 1)
      clear g9 G10
      go_wp2_with fail
      refine he _ ?_
      clear he
      intro w10 g10
      simp only [d3]
      have G12 := G11.trans g10
      obtain ⟨ps, pp, pg⟩ := parts2 w10 [97] [98] 1 1 rfl rfl (by decide) (by decide) (1, 2) (1, 2) (0, 0)
      have hf := framC _ 2 _ [[97], [98]] _ ps pp (by decide) (by decide)
      simp only [mfr] at hf
      have G13 := G12.trans pg
      clear g10 G11 G12 ps pp pg d1 d2 d3
      go_wp2_with fail
      refine hf _ ?_
      clear hf
      intro ao c w11 ho g11 _
      have hf := hR _ (G13.trans g11)
      have cv : (convert 22 9 (.slice ao 10 c)).run Try.prog w11 = .ok (.string (str [1, 0, 0, 0, 97, 1, 0, 0, 0, 98])) w11 := run_str (d := 9) Try.underlying22 Try.underlying5 Try.underlying9 ho.sl
      have hst : (str [1, 0, 0, 0, 97, 1, 0, 0, 0, 98]).toList = [1, 0, 0, 0, 97, 1, 0, 0, 0, 98] := str_toList _
      clear hR G13 g11 ho
      go_wp2_with fail
      exact hf
end Go.Proofs.Ytaepfkpfageiaaa
