/- A command as a step; numbers that are the same; a sector that begins with a text. -/
import Derived.Test.YtgchbcopbkoomaaAk25
import Derived.Test.YtgchbcopbkoomaaRound
namespace Go.Proofs.Ytgchbcopbkoomaa
open Go Go.RowKit

theorem ret_one {P : Program} {fn : Func} {p : Tmp} {ty : TypeId} (h : fn.results = #[.cell p ty]) (tmps : Array Value) (w : World) (g : Nat) (cs : List Value) (d : TypeDesc)
    (hp : tmps.getD p undef = .pointer (some ⟨g, 0, none⟩)) (hc : w.rangeAt g 0 cs) (hu : P.underlying ty = some d) (hd : d.isRow = true) (hi : (P.info? ty).map (·.size) = some cs.length) :
    (results fn tmps).run P w = .ok (.agg cs.toArray) w := by
  have hp' : tmps[p]?.getD undef = .pointer (some ⟨g, 0, none⟩) := by simpa using hp
  simp [results, h, hp', asAddr, run_loadVar_mid w g 0 ty cs d hc hu hd hi]
/-- A step that is a command, its data where they may lie. -/
def doE (c : CmX) (da : Option Addr) (dc : Nat) : Ex := ⟨⟨1, c, 0, [], []⟩, da, dc, none, 0, none, 0⟩
def doV (c : CmX) (da : Option Addr) (dc : Nat) : List Value := [.int .i64 c.kind, .string (str c.pass), .string (str c.other), .int .i64 c.first, .int .i64 c.count, .slice da c.data.length dc]
theorem doE_v (c : CmX) (da : Option Addr) (dc : Nat) : exV (doE c da dc) = .int .i64 1 :: (doV c da dc ++ [.int .i64 0, .slice none 0 0, .slice none 0 0]) := rfl
theorem built_do (a0 a3 a4 : Int) (a1 a2 : ByteArray) (a5 : Option Addr) (n5 c5 : Nat) : Try.prog.built 38 [(0, .int .i64 1), (1, .agg #[.int .i64 a0, .string a1, .string a2, .int .i64 a3, .int .i64 a4, .slice a5 n5 c5])] = some #[.int .i64 1, .int .i64 a0, .string a1, .string a2, .int .i64 a3, .int .i64 a4, .slice a5 n5 c5, .int .i64 0, .slice none 0 0, .slice none 0 0] := by kernel_rfl
theorem doV_one (c : CmX) (da : Option Addr) (dc : Nat) : ∀ v ∈ doV c da dc, v.oneCell' = true := by simp [doV, Value.oneCell']
set_option maxRecDepth 100000 in
set_option maxHeartbeats 1000000 in
theorem doC (c : CmX) (da : Option Addr) (dc : Nat) (w : World) (R : Ending → World → Prop) (hR : ∀ w', Grow w w' → R (.returned (.agg (exV (doE c da dc)).toArray)) w') :
    Calls Try.prog 13 #[.agg (doV c da dc).toArray] w R := by
  have hml : maxLen = 9223372036854775807 := rfl
  have hb := built_do c.kind c.first c.count (str c.pass) (str c.other) da c.data.length dc
  have hx : (#[.int .i64 c.kind, .string (str c.pass), .string (str c.other), .int .i64 c.first, .int .i64 c.count, .slice da c.data.length dc] : Array Value) = (doV c da dc).toArray := rfl
  have hv : (#[.int .i64 1, .int .i64 c.kind, .string (str c.pass), .string (str c.other), .int .i64 c.first, .int .i64 c.count, .slice da c.data.length dc, .int .i64 0, .slice none 0 0, .slice none 0 0] : Array Value) = (exV (doE c da dc)).toArray := rfl
  have h1 := exV_one (doE c da dc)
  have hl := exV_len (doE c da dc)
  have h6 := doV_one c da dc
  have hl6 : (doV c da dc).length = 6 := rfl
  rw [hx, hv] at hb
  clear hx hv
  have hsz : (Try.prog.info? 35).map (·.size) = some (doV c da dc).length := by kernel_rfl
  have hszF : (Try.prog.info? 38).map (·.size) = some (exV (doE c da dc)).toArray.size := by kernel_rfl
  have hszG : (Try.prog.info? 38).map (·.size) = some (exV (doE c da dc)).length := by kernel_rfl
  have b0 := heap_alloc_new w (.cells (doV c da dc).toArray 35)
  have c0 := Own.made (n := 6) (sz := 1) b0 rfl (by decide) h6
  have g0 := Grow.alloc w (.cells (doV c da dc).toArray 35)
  have z0 : (w.alloc (.cells (doV c da dc).toArray 35)).heap.size = w.heap.size + 1 := sz_al _ _
  obtain ⟨X, hX⟩ : ∃ X, X = doV c da dc := ⟨_, rfl⟩
  obtain ⟨V, hV⟩ : ∃ V, V = exV (doE c da dc) := ⟨_, rfl⟩
  obtain ⟨q, hq⟩ : ∃ q, q = w.heap.size := ⟨_, rfl⟩
  rw [← hX, ← hV] at hb
  rw [← hX] at h6 hl6 hsz b0 c0 g0 z0 ⊢
  rw [← hV] at h1 hl hszF hszG hR
  rw [← hq] at c0 z0
  have hX' := Lib.hid hX
  have hV' := Lib.hid hV
  clear hX hV
  go_enter Try.func13, Try.ntmps13
  go_upto_region 1 with (fail)
  rw [← hq]
  change Code.wp _ _ _ ⟨_, _⟩ ((w.alloc (.cells X.toArray 35)).alloc (.cells stZ.toArray 38))
  generalize w.alloc (.cells X.toArray 35) = W0 at *
  obtain ⟨o4, ga1, th1, al1⟩ := newvarZ (n := 10) (t := 38) W0 stZ rfl stZ_one (by omega) hl h1
  have hrg : (W0.alloc (.cells stZ.toArray 38)).rangeAt q 0 X := own_range ((show Own W0 _ 1 (some ⟨q, 0, none⟩) 6 6 X from c0).grow (Grow.alloc W0 _)) (by omega)
  rw [z0] at o4 ga1 th1
  go_wp2_with (first | (refine wpList_built rfl 38 [(0, .const (.int .i64 1)), (1, .tmp 3)] rfl rfl hb ?_) | (refine wpList_load_mid rfl 35 _ rfl q 0 rfl X _ hrg Try.underlying35 rfl hsz ?_) | (refine wpList_store_mid rfl 38 _ _ rfl (q + 1) 0 V.toArray rfl rfl th1 hszF al1 ?_))
  subst hq
  refine bodyPost_ret (v := .agg V.toArray) (ret_one Try.results13 _ _ (w.heap.size + 1) V _ rfl (own_range o4 (by omega)) Try.underlying38 rfl hszG) rfl (hR _ (g0.trans ga1))
end Go.Proofs.Ytgchbcopbkoomaa
