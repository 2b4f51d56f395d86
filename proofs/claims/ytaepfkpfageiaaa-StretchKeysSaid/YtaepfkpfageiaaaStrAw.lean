/- awake of law 3. -/
import Derived.Test.YtaepfkpfageiaaaStrQ
import Derived.Test.YtaepfkpfageiaaaStrK
import Derived.Test.YtaepfkpfageiaaaMacAw
namespace Go.Proofs.Ytaepfkpfageiaaa
open Go Go.RowKit

set_option maxRecDepth 100000 in
set_option maxHeartbeats 1000000 in
theorem awake3C (w : World) (R : Ending → World → Prop) (hR : ∀ w', Grow w w' → R (.returned (.bool true)) w') :
    Calls Try.prog 35 #[] w R := by
  have hml : maxLen = 9223372036854775807 := rfl
  have kc := fun (w : World) (C : Array Value) (n c : Nat) => Lib.run_convert_bytes_const (P := Try.prog) w 22 5 C n c Try.underlying22 Try.underlying5
  have kc2 : ∀ (w : World) (o : Obj) (C : Array Value) (n c : Nat), (convert 22 22 (.slice (some ⟨w.heap.size + 1, 0, none⟩) n c)).run Try.prog ((w.alloc o).alloc (.cells C 5)) = .ok (.slice (some ⟨w.heap.size + 1, 0, none⟩) n c) ((w.alloc o).alloc (.cells C 5 (C.size, C.size + 1))) := fun w o C n c => by
    have := kc (w.alloc o) C n c
    rwa [sz_al] at this
  have mk1 : ∀ w : World, (Instr.makeSlice 22 (.int .i64 128) (.int .i64 128)).run Try.prog w = .ok (.slice (some ⟨w.heap.size, 0, none⟩) 128 128) (w.alloc (.cells (List.replicate 128 (.int .u8 0)).toArray 5)) := make_bytes 128 (by decide)
  have mk2 : ∀ w : World, (Instr.makeSlice 22 (.int .i64 129) (.int .i64 129)).run Try.prog w = .ok (.slice (some ⟨w.heap.size, 0, none⟩) 129 129) (w.alloc (.cells (List.replicate 129 (.int .u8 0)).toArray 5)) := make_bytes 129 (by decide)
  obtain ⟨Z1, hZ1⟩ : ∃ Z, Z = (List.replicate 128 (Value.int .u8 0)).toArray := ⟨_, rfl⟩
  obtain ⟨Z2, hZ2⟩ : ∃ Z, Z = (List.replicate 129 (Value.int .u8 0)).toArray := ⟨_, rfl⟩
  simp only [← hZ1] at mk1
  simp only [← hZ2] at mk2
  have hm1 := fun w : World => mayTopC (some ⟨w.heap.size, 0, none⟩) 128 128 (w.alloc (.cells Z1 5))
  have hm2 := fun w : World => mayTopC (some ⟨w.heap.size, 0, none⟩) 129 129 (w.alloc (.cells Z2 5))
  rw [show decide (128 ≤ 128) = true from rfl] at hm1
  rw [show decide (129 ≤ 128) = false from rfl] at hm2
  have hkey := fun po pc so sc w' sp s => strKeyOk po pc pwS so 4 sc saS 0 4 w' sp s (by decide) (by decide)
  have hkn := fun w' => strKeyNo none 0 0 none 0 0 0 4 w' (.inl (by decide))
  have hblk := fun po pc so sc w' sp s => strBlockOk po pc pwS so 4 sc saS 0 1 w' sp s (by decide) (by decide) (by decide)
  rw [sk1] at hkey
  rw [sq1] at hblk
  rw [show ((0 : Nat) : Int) + 1 = 1 from rfl, show ((4 : Nat) : Int) = 4 from rfl, show pwS.length = 8 from rfl] at hkey
  rw [show ((0 : Nat) : Int) + 1 = 1 from rfl, show ((1 : Nat) : Int) = 1 from rfl, show pwS.length = 8 from rfl] at hblk
  obtain ⟨F, hF⟩ : ∃ F, F = tS1.map B := ⟨_, rfl⟩
  have hFl : F.length = 32 := by rw [hF]; rfl
  have hF1 : ∀ v ∈ F, v.oneCell' = true := by rw [hF]; exact B_one _
  have hF0 : F[0]? = some (.int .u8 18) := by rw [hF]; rfl
  simp only [← hF] at hblk
  have i32 : (Try.prog.info? 27).map (·.size) = some 32 := by kernel_rfl
  have hszF : (Try.prog.info? 27).map (·.size) = some F.toArray.size := by rw [List.size_toArray, hFl]; exact i32
  clear hZ1 hZ2 hF
  obtain ⟨sa, sb, gab⟩ := lits2 w pwS saS 8 4 rfl rfl (by decide) (by decide) (8, 9) (4, 5)
  have hc := hkey _ _ _ _ _ sa sb
  clear hkey sa sb
  go_enter Try.func35, Try.ntmps35
  go_wp2_with fail
  refine hc _ ?_
  clear hc
  intro ko kcap w1 ok g1 _
  have G1 := gab.trans g1
  clear gab g1
  go_wp2_with fail
  refine hkn _ _ ?_
  clear hkn
  obtain ⟨sa, sb, gab⟩ := lits2 w1 pwS saS 8 4 rfl rfl (by decide) (by decide) (8, 9) (4, 5)
  have hc := hblk _ _ _ _ _ sa sb
  clear hblk sa sb
  go_wp2_with fail
  refine hc _ ?_
  clear hc
  intro w2 g2
  have G2 := G1.trans (gab.trans g2)
  have ok2 := (ok.grow gab).grow g2
  clear G1 gab g2 ok
  obtain ⟨o1, ga1, th1, al1⟩ := newvar (t := 27) w2 (.int .u8 0) rfl (by omega) hFl hF1
  go_upto_region 4 with (refine wpList_store_mid rfl 27 _ _ rfl w2.heap.size 0 F.toArray rfl rfl th1 hszF al1 ?_)
  change Code.wp _ _ _ ⟨_, _⟩ ((w2.alloc (.cells (List.replicate 32 (.int .u8 0)).toArray 27)).setCells w2.heap.size 0 F)
  have G3 := G2.trans ga1
  have ok3 := (ok2.grow ga1).sl
  obtain ⟨q, hq⟩ : ∃ q, q = w2.heap.size := ⟨_, rfl⟩
  generalize (w2.alloc (.cells (List.replicate 32 (.int .u8 0)).toArray 27)).setCells w2.heap.size 0 F = w3 at *
  rw [← hq] at o1 ⊢
  clear hq th1 al1 ga1 G2 ok2
  have c0 := o1.rowR.cell hF0
  have cv : (convert 22 9 (.slice ko 4 kcap)).run Try.prog w3 = .ok (.string (str [18, 15, 182, 207])) w3 := run_str (d := 9) Try.underlying22 Try.underlying5 Try.underlying9 ok3
  have hst : (str [18, 15, 182, 207]).toList = [18, 15, 182, 207] := str_toList _
  clear ok3 o1 hszF i32 kc kc2
  go_wp2_with fail
  refine hm1 _ _ ?_
  clear hm1
  have g4 := Grow.alloc w3 (.cells Z1 5)
  generalize w3.alloc (.cells Z1 5) = w4 at *
  go_wp2_with fail
  refine hm2 _ _ ?_
  clear hm2
  have g5 := Grow.alloc w4 (.cells Z2 5)
  have hf := hR _ (G3.trans (g4.trans g5))
  clear hR
  go_wp2_with fail
  exact hf
end Go.Proofs.Ytaepfkpfageiaaa
