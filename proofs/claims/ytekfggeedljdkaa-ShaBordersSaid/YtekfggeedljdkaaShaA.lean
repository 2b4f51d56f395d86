/- sha.Sum; strings.IndexByte in sixteen digits. -/
import Derived.Test.YtekfggeedljdkaaShaV
import Derived.Lib.Bytealg
import Derived.Lib.Strings
namespace Go.Proofs.Ytekfggeedljdkaa
open Go Go.RowKit

/-- A result that is thirty-two bytes. -/
theorem ret_bytes {P : Program} {fn : Func} {p : Tmp} {ty : TypeId} (h : fn.results = #[.cell p ty]) (tmps : Array Value) (w : World) (g : Nat) (F : List Value) (e : TypeId) (d : TypeDesc) (n : Nat)
    (hp : tmps.getD p undef = .pointer (some ⟨g, 0, none⟩)) (o : Own w e 1 (some ⟨g, 0, none⟩) n n F) (h0 : 0 < n) (hu : P.underlying ty = some d) (hd : d.isRow = true) (hi : (P.info? ty).map (·.size) = some n) :
    (results fn tmps).run P w = .ok (.agg F.toArray) w := by
  obtain ⟨g', off', eg, hcs⟩ := o.sl.hat h0
  cases eg
  have hl := o.row.1
  exact results_mid h tmps w g F d hp (fun j v hj => hcs.at hj) hu hd (by rw [hi]; congr 1; omega)
theorem own_whole {w : World} {e : TypeId} {g n : Nat} {X Y : List Value} (o : Own w e 1 (some ⟨g, 0, none⟩) n n X) (hY : Y.length = n) (h1 : ∀ v ∈ Y, v.oneCell' = true) : Own (w.setCells g 0 Y) e 1 (some ⟨g, 0, none⟩) n n Y := by
  have := own_setCells Y 0 X w o (by omega) h1
  simpa using this
theorem own_there {w : World} {e : TypeId} {g n : Nat} {X : List Value} (o : Own w e 1 (some ⟨g, 0, none⟩) n n X) (m : Nat) (hm : m = n) : w.there g 0 m := fun j hj => by
  obtain ⟨g3, v, eg, hv, hfz, -⟩ := own_put o (i := j) (by omega)
  cases eg
  rw [Nat.zero_add]
  exact ⟨by rw [hv]; rfl, hfz⟩
theorem one_all {F : List Value} (h : ∀ v ∈ F, v.oneCell' = true) : F.toArray.all (·.oneCell') = true := by
  rw [Array.all_eq_true_iff_forall_mem]
  intro v hv
  exact h v (by simpa using hv)

set_option maxRecDepth 100000 in
set_option maxHeartbeats 1000000 in
theorem sumTop (lo : Option Addr) (cap : Nat) (vs : List Value) (ls : List (List UInt8)) (w : World) (s : Sl w 1 lo ls.length cap vs) (pt : Pt w vs ls) (hl : ls.length ≤ 1000000) (ht : ls.flatten.length ≤ 1000000)
    (R : Ending → World → Prop) (hR : ∀ w', Grow w w' → R (.returned (.agg ((sumS ls.flatten).map B).toArray)) w') :
    Calls Try.prog 11 #[.slice lo ls.length cap] w R := by
  have i32 : (Try.prog.info? 26).map (·.size) = some 32 := by kernel_rfl
  have hsl := sumS_len ls.flatten
  have hsc := fun p w' sm s' pt' => sumC p Hs Ks Hs_lt lo cap vs ls w' sm s' pt' hl ht
  have hnew := newS
  have hsum : sumOf Hs Ks ls.flatten = sumS ls.flatten := rfl
  simp only [hsum] at hsc
  clear hsum
  obtain ⟨F, hF⟩ : ∃ F, F = (sumS ls.flatten).map B := ⟨_, rfl⟩
  have hFl : F.length = 32 := by rw [hF, List.length_map]; exact hsl
  have hF1 : ∀ v ∈ F, v.oneCell' = true := by rw [hF]; exact B_one _
  simp only [← hF] at hsc hR
  clear hF hsl
  generalize Hs = H at *
  generalize Ks = K at *
  have oO : Own (w.alloc (.cells (List.replicate 32 (.int .u8 0)).toArray 26)) 26 1 (some ⟨w.heap.size, 0, none⟩) 32 32 (List.replicate 32 (.int .u8 0)) := Own.made (n := 32) (heap_alloc_new w _) rfl (by decide) (by simp [Value.oneCell'])
  have g1 := Grow.alloc w (.cells (List.replicate 32 (.int .u8 0)).toArray 26)
  obtain ⟨q, hq⟩ : ∃ q, q = w.heap.size := ⟨_, rfl⟩
  go_enter Try.func11, Try.ntmps11
  go_wp2_with fail
  change Calls _ _ _ (w.alloc (.cells (List.replicate 32 (.int .u8 0)).toArray 26)) _
  generalize w.alloc (.cells (List.replicate 32 (.int .u8 0)).toArray 26) = w1 at *
  rw [← hq] at oO ⊢
  have Hq := Lib.hid hq
  clear hq
  refine hnew w1 _ ?_
  intro p w2 sm g2 hp
  go_wp2_with fail
  refine hsc p w2 sm (s.grow (g1.trans g2)) (pt.grow (g1.trans g2)) _ ?_
  intro w3 g3
  have o3 := (oO.grow g2).grow g3
  have hth := own_there o3 F.toArray.size (by simpa using hFl)
  have hsz : (Try.prog.info? 26).map (·.size) = some F.length := by rw [hFl]; exact i32
  have hall := one_all hF1
  have gg := ((g1.trans g2).trans g3).then (Keep.setCells q F 0 w3) (fun x hx => by simp at hx; have := Hq.out; omega)
  have o4 := own_whole o3 hFl hF1
  go_wp2_with (refine wpList_store_mid rfl 26 _ _ rfl q 0 F.toArray rfl rfl hth (by simpa using hsz) hall ?_)
  exact bodyPost_ret (v := .agg F.toArray) (ret_bytes Try.results11 _ _ q F _ _ 32 rfl o4 (by decide) Try.underlying26 rfl i32) rfl (hR _ gg)

/-- The place of a digit. -/
def dgs : List UInt8 := [48, 49, 50, 51, 52, 53, 54, 55, 56, 57, 97, 98, 99, 100, 101, 102]
def unhx (c : UInt8) : Int := Lib.indexByte dgs c
theorem indexC (c : UInt8) (w : World) (R : Ending → World → Prop) (hR : R (.returned (.int .i64 (unhx c))) w) :
    Calls Try.prog 31 #[.string ⟨#[48, 49, 50, 51, 52, 53, 54, 55, 56, 57, 97, 98, 99, 100, 101, 102]⟩, .int .u8 (c.toNat : Int)] w R := by
  have hin : ∀ (w : World) (R : Ending → World → Prop), R (.returned (.int .i64 (unhx c))) w → Calls Try.prog 35 #[.string ⟨#[48, 49, 50, 51, 52, 53, 54, 55, 56, 57, 97, 98, 99, 100, 101, 102]⟩, .int .u8 (c.toNat : Int)] w R := by
    intro w R hR
    have hc : ((c.toNat : Int)).toNat.toUInt8 = c := by simp
    go_enter Try.func35, Try.ntmps35
    go_wp2_with fail
    rw [run_callFunc_extern Try.func40 (by kernel_rfl) (by kernel_rfl) (by kernel_rfl) (e := Extern.BytealgIndexByte.indexByte) (by kernel_rfl), Lib.run_indexByteString, hc]
    simp only [Result.andThen]
    rw [Oper.upon_value]
    go_wp2_with fail
    exact hR
  go_enter Try.func31, Try.ntmps31
  go_wp2_with fail
  refine hin _ _ ?_
  go_wp2_with fail
  exact hR
end Go.Proofs.Ytekfggeedljdkaa
