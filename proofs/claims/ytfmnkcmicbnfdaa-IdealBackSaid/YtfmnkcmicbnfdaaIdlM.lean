/- The ideal cipher: Key. -/
import Derived.Test.YtfmnkcmicbnfdaaIdlL
namespace Go.Proofs.Ytfmnkcmicbnfdaa
open Go Go.RowKit

def kvA (l : List Kv) : List (Ask × List UInt8) := l.map fun e => (e.k, e.key)
def putK (v : Kv) : List Kv → List Kv
  | [] => [v]
  | e :: l => if v.k = e.k then v :: l else e :: putK v l
theorem kvP_put (v : Kv) : ∀ l, kvP (putK v l) = putM v.k (v.ao, v.key.length, v.c) (kvP l)
  | [] => rfl
  | e :: l => by
    rw [show kvP (e :: l) = (e.k, (e.ao, e.key.length, e.c)) :: kvP l from rfl, putK, putM]
    split
    · rfl
    · rw [← kvP_put v l]; rfl
theorem kvA_put (v : Kv) : ∀ l, kvA (putK v l) = putM v.k v.key (kvA l)
  | [] => rfl
  | e :: l => by
    rw [show kvA (e :: l) = (e.k, e.key) :: kvA l from rfl, putK, putM]
    split
    · rfl
    · rw [← kvA_put v l]; rfl
theorem mem_putK (v : Kv) : ∀ l, ∀ e ∈ putK v l, e = v ∨ e ∈ l
  | [], e, h => by simp [putK] at h; exact .inl h
  | e' :: l, e, h => by
    rw [putK] at h
    split at h
    · rcases List.mem_cons.1 h with h | h
      · exact .inl h
      · exact .inr (by simp [h])
    · rcases List.mem_cons.1 h with h | h
      · exact .inr (by simp [h])
      · exact (mem_putK v l e h).imp id (fun h => by simp [h])
def hadS (x : Ask) (ks : List Kv) : List UInt8 := (look x (kvA ks)).getD []
theorem kv_had (w : World) (x : Ask) : ∀ ks : List Kv, (∀ e ∈ ks, Sl w 1 e.ao e.key.length e.c (e.key.map B)) → ∃ ho hc, lookV evK (.slice none 0 0) false (look x (kvP ks)) = .slice ho (hadS x ks).length hc ∧ Sl w 1 ho (hadS x ks).length hc ((hadS x ks).map B)
  | [], _ => ⟨none, 0, rfl, Sl.none w 1⟩
  | e :: l, h => by
    have e1 : look x (kvP (e :: l)) = if x = e.k then some (e.ao, e.key.length, e.c) else look x (kvP l) := by rw [show kvP (e :: l) = (e.k, (e.ao, e.key.length, e.c)) :: kvP l from rfl, look_cons]
    have e2 : hadS x (e :: l) = if x = e.k then e.key else hadS x l := by
      unfold hadS
      rw [show kvA (e :: l) = (e.k, e.key) :: kvA l from rfl, look_cons]
      split <;> rfl
    by_cases hk : x = e.k
    · rw [e1, e2, if_pos hk, if_pos hk]
      exact ⟨e.ao, e.c, rfl, h e (by simp)⟩
    · rw [e1, e2, if_neg hk, if_neg hk]
      exact kv_had w x l (fun e' he => h e' (by simp [he]))

section
variable {w w' : World} {p t P K : Nat} {wf wf' rb : List Nat} {bs : List UInt8} {at_ a' : Nat} {l : List Ent} {ks ks' : List Kv} {cnt ag : Nat}
theorem Ci.took (h : Ci w p t P K wf rb bs at_ l ks cnt ag) {T : List (ByteArray × Int × Int)} (ht : TapeAt w' t wf' rb (bs.map B) a' T) (hT : T.length ≤ a') (k : Keep wf w w') (hi : Inn wf' wf w) : Ci w' p t P K wf' rb bs a' l ks cnt ag := by
  have hlt := h.lt
  have hnd := h.nd
  have out : ∀ x, x < w.heap.size → x ∉ wf → x ∉ wf' := fun x hx hn hm => by
    rcases hi x hm with h1 | h1
    · exact hn h1
    · omega
  unfold fpI at hnd
  simp only [List.nodup_cons, List.mem_cons, List.mem_append, not_or, List.nodup_append] at hnd
  obtain ⟨⟨q1, q2, q3, q4⟩, ⟨q5, q6, q7⟩, ⟨q8, q9⟩, q10, q11, q12⟩ := hnd
  have hfp : ∀ x, x < w.heap.size → x ∉ fpI p P K wf l → x ∉ fpI p P K wf' l := fun x hlx hn hm => by
    simp only [fpI, List.mem_cons, List.mem_append, not_or] at hn hm
    rcases hm with hm | hm | hm | hm | hm
    · exact hn.1 hm
    · exact hn.2.1 hm
    · exact hn.2.2.1 hm
    · exact out x hlx hn.2.2.2.1 hm
    · exact hn.2.2.2.2 hm
  have hel : ∀ e ∈ l, e.f ∉ wf ∧ e.b ∉ wf := fun e he => ⟨fun hm => q12 _ hm _ (List.mem_flatMap.2 ⟨e, he, by simp⟩) rfl, fun hm => q12 _ hm _ (List.mem_flatMap.2 ⟨e, he, by simp⟩) rfl⟩
  refine ⟨k.obj h.obj q3, ⟨T, ht, hT⟩, h.pm.keep k q6, fun e he => ⟨(h.fm e he).1.keep k (hel e he).1, (h.fm e he).2.keep k (hel e he).2⟩, h.km.keep k q8, fun e he => ⟨(h.kr e he).1.keep k (fun g hg hm => ((h.kr e he).2 g hg).1 (by simp [fpI, hm])), fun g hg => ⟨hfp g ((h.kr e he).2 g hg).2 ((h.kr e he).2 g hg).1, Nat.lt_of_lt_of_le ((h.kr e he).2 g hg).2 k.size⟩⟩, ?_, fun g hg => ?_⟩
  · unfold fpI
    simp only [List.nodup_cons, List.mem_cons, List.mem_append, not_or, List.nodup_append]
    refine ⟨⟨q1, q2, out p (hlt p (by simp [fpI])) q3, q4⟩, ⟨q5, out P (hlt P (by simp [fpI])) q6, q7⟩, ⟨out K (hlt K (by simp [fpI])) q8, q9⟩, tape_nodup ht, q11, fun x hxw y hy e => ?_⟩
    subst e
    rcases hi x hxw with h1 | h1
    · exact q12 x h1 x hy rfl
    · have := hlt x (by simp only [fpI, List.mem_cons, List.mem_append]; exact .inr (.inr (.inr (.inr hy))))
      omega
  · obtain ⟨T0, ht0, -⟩ := h.tape
    exact hfp g (ht0.old.2.1 g hg) (h.rd g hg)
theorem Ci.stored (h : Ci w p t P K wf rb bs at_ l ks cnt ag) (m : Mp ekA evK w' K (kvP ks')) (k : Keep [K] w w') (hkr : ∀ e ∈ ks', Sl w' 1 e.ao e.key.length e.c (e.key.map B) ∧ ∀ g ∈ blk e.ao, g ∉ fpI p P K wf l ∧ g < w'.heap.size) : Ci w' p t P K wf rb bs at_ l ks' cnt ag := by
  have hnd := h.nd
  unfold fpI at hnd
  simp only [List.nodup_cons, List.mem_cons, List.mem_append, not_or, List.nodup_append] at hnd
  obtain ⟨⟨q1, q2, q3, q4⟩, ⟨q5, q6, q7⟩, ⟨q8, q9⟩, q10, q11, q12⟩ := hnd
  obtain ⟨T, ht, hT⟩ := h.tape
  have hel : ∀ e ∈ l, e.f ≠ K ∧ e.b ≠ K := fun e he => ⟨fun hm => q9 (List.mem_flatMap.2 ⟨e, he, by simp [hm]⟩), fun hm => q9 (List.mem_flatMap.2 ⟨e, he, by simp [hm]⟩)⟩
  exact ⟨k.obj h.obj (by simpa using q2), ⟨T, ht.keep k (fun g hg hm => by simp at hm; subst hm; exact q8 hg) (fun g hg hm => by simp at hm; subst hm; exact h.rd _ hg (by simp [fpI])), hT⟩, h.pm.keep k (by simpa using q5), fun e he => ⟨(h.fm e he).1.keep k (by simpa using (hel e he).1), (h.fm e he).2.keep k (by simpa using (hel e he).2)⟩, m, hkr, h.nd, h.rd⟩
end

/-- How it ends. -/
structure KeyEnd (w : World) (p t : Nat) (fp : List Nat) (bs : List UInt8) (s : IdS) (ks : List Kv) (x : Ask) (n : Nat) (R : Ending → World → Prop) : Prop where
  had : n ≤ (hadS x ks).length → ∀ ao c w', Own w' 5 1 ao n c (((hadS x ks).map B).take n) → Grow w w' → (∀ g ∈ blk ao, w.heap.size ≤ g) → R (.returned (.tuple #[.slice ao n c, .int .i64 0])) w'
  dry : (hadS x ks).length < n → bs.length < s.a + (n - (hadS x ks).length) → ∀ w', Grow w w' → R (.returned (.tuple #[.slice none 0 0, .int .i64 9])) w'
  new : (hadS x ks).length < n → s.a + (n - (hadS x ks).length) ≤ bs.length → ∀ ao c ks' fp' w', Own w' 5 1 ao n c ((hadS x ks ++ (bs.drop s.a).take (n - (hadS x ks).length)).map B) → CiS w' p t fp' bs ⟨s.a + (n - (hadS x ks).length), s.S, s.cnt, s.ag⟩ ks' → kvA ks' = putM x (hadS x ks ++ (bs.drop s.a).take (n - (hadS x ks).length)) (kvA ks) → Keep fp w w' → (∀ g ∈ fp', g ∈ fp ∨ w.heap.size ≤ g) → (∀ g ∈ blk ao, w.heap.size ≤ g) → (∀ g ∈ blk ao, g ∉ fp') → R (.returned (.tuple #[.slice ao n c, .int .i64 0])) w'

set_option maxRecDepth 100000 in
set_option maxHeartbeats 2000000 in
theorem idlKeyC {w : World} {p t : Nat} {fp : List Nat} {bs : List UInt8} {s : IdS} {ks : List Kv} (h : CiS w p t fp bs s ks) (hbs : bs.length ≤ 50000) (what : ByteArray) (po : Option Addr) (pc : Nat) (pass : List UInt8) (so : Option Addr) (sc : Nat) (salt : List UInt8) (r n : Nat) (sp : Sl w 1 po pass.length pc (pass.map B)) (ss : Sl w 1 so salt.length sc (salt.map B))
    (hp : pass.length ≤ 128) (hs : salt.length ≤ 64) (hr1 : 1 ≤ r) (hr2 : r ≤ 10000) (hn : n ≤ 256) (hkl : (hadS ⟨str pass, str salt, r⟩ ks).length ≤ 5000) (R : Ending → World → Prop) (hR : KeyEnd w p t fp bs s ks ⟨str pass, str salt, r⟩ n R) :
    Calls Try.prog 24 #[.pointer (some ⟨p, 0, none⟩), .string what, .slice po pass.length pc, .slice so salt.length sc, .int .i64 (r : Int), .int .i64 (n : Int)] w R := by
  have hml : maxLen = 9223372036854775807 := rfl
  obtain ⟨P, K, wf, rb, l, h1, habs, hfp⟩ := h
  have hsk : ∀ R2 : Ending → World → Prop, (∀ ao c w', Own w' 5 1 ao 0 c ((keyS pass salt 0 0).map B) → Grow w w' → Fr (blk ao) w → R2 (.returned (.tuple #[.slice ao 0 c, .int .i64 0])) w') → Calls Try.prog 58 #[.slice po pass.length pc, .slice so salt.length sc, .int .i64 1, .int .i64 0] w R2 := fun R2 h2 => strKeyOk po pc pass so salt.length sc salt 0 0 w sp ss (by simp [mayB]; omega) (by omega) R2 h2
  have hmn : min (r : Int) 1 = 1 := by omega
  have hmn2 : (if (1 : Int) < (r : Int) then (1 : Int) else (r : Int)) = 1 := by split <;> omega
  have hmn3 : (if (r : Int) < 1 then (r : Int) else (1 : Int)) = 1 := by split <;> omega
  have hd1 : decide (10000 < (r : Int)) = false := decide_eq_false (by omega)
  have hd2 : decide ((n : Int) < 0) = false := decide_eq_false (by omega)
  have hd3 : decide (256 < (n : Int)) = false := decide_eq_false (by omega)
  have H1 := Lib.hid h1
  have Habs := Lib.hid habs
  have Hfp := Lib.hid hfp
  have hlt := h1.lt
  obtain ⟨pn, hpn⟩ : ∃ m, m = pass.length := ⟨_, rfl⟩
  obtain ⟨sn, hsn⟩ : ∃ m, m = salt.length := ⟨_, rfl⟩
  have cvp : ∀ W, Grow w W → (convert 27 9 (.slice po pass.length pc)).run Try.prog W = .ok (.string (str pass)) W := fun W g => run_str Try.underlying27 Try.underlying5 Try.underlying9 (sp.grow g)
  have cvs : ∀ W, Grow w W → (convert 27 9 (.slice so salt.length sc)).run Try.prog W = .ok (.string (str salt)) W := fun W g => run_str Try.underlying27 Try.underlying5 Try.underlying9 (ss.grow g)
  simp only [← hpn, ← hsn] at hsk cvp cvs ⊢
  clear habs hfp h1 hpn hsn sp ss hp hs hr1 hr2
  obtain ⟨x, hx⟩ : ∃ x, x = (⟨str pass, str salt, (r : Int)⟩ : Ask) := ⟨_, rfl⟩
  have hxv : asV ⟨str pass, str salt, (r : Int)⟩ = asV x := by rw [hx]
  rw [← hx] at hkl hR
  have HR := Lib.hid hR
  have Hx := Lib.hid hx
  clear hx hR
  go_enter Try.func24, Try.ntmps24
  go_wp2_with fail
  refine hsk _ ?_
  clear hsk hmn hmn2 hmn3
  intro ao1 c1 w1 o1 g1 _
  clear o1
  go_upto_region 6 with (fail)
  refine key6 po pn pc so sn sc (r : Int) (str pass) (str salt) w1 (cvp w1 g1) (cvs w1 g1) ?_
  intro q16 w2 o16 g2 hq16
  intros
  rw [hxv] at o16
  have G2 := g1.trans g2
  have h2 := H1.out.grow G2
  have c16 := own_cells4 o16 (by omega)
  have hz1 := g1.size
  have hl16 := o16.lt q16 (by simp [blk])
  clear o16 hd1 hd2 hd3 cvp cvs hxv Hx
  go_upto_region 7 with (fail)
  refine key7 p K q16 x (kvP ks) w2 (obj_cell h2.obj 2 rfl) h2.km c16 ?_
  intro w3 k3
  intros
  have G3 := G2.trans k3.grow
  have h3 := h2.grow k3.grow
  have c163 := c16.keep k3 (by simp)
  obtain ⟨ho, hc, hlv, shd⟩ := kv_had w3 x ks (fun e he => (h3.kr e he).1)
  rw [hlv]
  have Hlv := Lib.hid hlv
  obtain ⟨hd, hhd⟩ : ∃ hd, hd = hadS x ks := ⟨_, rfl⟩
  rw [← hhd] at shd hkl ⊢
  have Hhd := Lib.hid hhd
  obtain ⟨hl, hhl⟩ : ∃ m, m = hd.length := ⟨_, rfl⟩
  rw [← hhl] at shd hkl ⊢
  have Hhl := Lib.hid hhl
  have hz3 := k3.size
  clear h2 c16 hlv hhd hhl g1 g2 G2 k3
  by_cases hle : n ≤ hl
  · have hcp : decide ((hl : Int) < (n : Int)) = false := decide_eq_false (by omega)
    go_upto_region 13 with (fail)
    refine key13 p K q16 x (kvP ks) ho hl hc (hd.map B) n (by omega) hle w3 (obj_cell h3.obj 2 rfl) h3.km (by rw [Hlv.out, Hhl.out, Hhd.out]) c163 shd ?_
    intro ao c w4 o4 g4 f4
    intros
    have hf := HR.out.had (by rw [← Hhd.out, ← Hhl.out]; exact hle) ao c w4 (by rw [← Hhd.out]; exact o4) (G3.trans g4) (fun g hg => by have := f4 g hg; have := G3.size; omega)
    clear HR
    go_wp2_with fail
    exact hf
  · have hcp : decide ((hl : Int) < (n : Int)) = true := decide_eq_true (by omega)
    obtain ⟨T, ht, hT⟩ := h3.tape
    have hlen : (bs.map B).length = bs.length := List.length_map ..
    have c0 := obj_cell h3.obj 0 rfl
    obtain ⟨d, hdd⟩ : ∃ d, d = n - hl := ⟨_, rfl⟩
    have hdi : (n : Int) - (hl : Int) = (d : Int) := by omega
    have hat : s.a ≤ bs.length := by
      obtain ⟨_, _, _, _, _, _, ha, _⟩ := ht
      omega
    by_cases hdry : bs.length < s.a + d
    · have hc := tapeTakeOver t wf rb (bs.map B) s.a T w3 ht (by omega) what ((n : Int) - (hl : Int)) (by omega) (by rw [hlen]; omega)
      clear ht hdi
      go_wp2_with fail
      refine hc _ ?_
      clear hc c0
      intro w4 g4
      have hf := HR.out.dry (by rw [← Hhd.out, ← Hhl.out]; omega) (by rw [← Hhd.out, ← Hhl.out, ← hdd]; exact hdry) w4 (G3.trans g4)
      clear HR
      go_wp2_with fail
      exact hf
    · have hc := tapeTake t wf rb (bs.map B) s.a T w3 ht (by omega) (by omega) what d (by omega)
      rw [← hdi] at hc
      have hd1 : 1 ≤ d := by omega
      have hd2 : d ≤ 256 := by omega
      have Hdd := Lib.hid hdd
      clear ht hdi hdd
      go_wp2_with fail
      refine hc _ ?_
      clear hc c0
      intro ao4 c4 wf4 w4 o4 ht4 k4 hi4 hf4 hd4
      have h4 := h3.took ht4 (by simp; omega) k4 hi4
      have hlt3 := h3.lt
      have hwf : ∀ g ∈ wf, g < w.heap.size := fun g hg => hlt g (by simp [fpI, hg])
      have c164 := c163.keep k4 (fun hm => by have := hwf _ hm; omega)
      have hlt4 := h4.lt
      obtain ⟨ho2, hc2, hlv2, shd4⟩ := kv_had w4 x ks (fun e he => (h4.kr e he).1)
      rw [← Hhd.out, ← Hhl.out] at hlv2 shd4
      have hlv0 := Hlv.out
      rw [← Hhd.out, ← Hhl.out] at hlv0
      have hinj := hlv2.symm.trans hlv0
      obtain ⟨rfl, -, rfl⟩ : ho2 = ho ∧ hl = hl ∧ hc2 = hc := by simpa using hinj
      have hz4 := k4.size
      have hG3 := G3.size
      obtain ⟨tk, htk⟩ : ∃ tk, tk = (bs.drop s.a).take d := ⟨_, rfl⟩
      have htl : tk.length = d := by rw [htk, List.length_take, List.length_drop]; omega
      have htv : ((bs.map B).drop s.a).take d = tk.map B := by rw [htk, List.map_take, List.map_drop]
      rw [htv] at o4
      have K4 : Keep fp w w4 := by
        rw [Hfp.out]
        exact (Keep.of_grow _ G3).trans (k4.mono (fun g hg => by simp [fpI, hg]))
      clear shd c163 ht4 k4 hd4 hlv2 hlv0 hinj htv G3 hwf
      go_upto_region 12 with (fail)
      refine key12 p K q16 x (kvP ks) ho2 hl hc2 (hd.map B) ao4 d c4 (tk.map B) (by omega) (by omega) w4 (obj_cell h4.obj 2 rfl) h4.km c164 shd4 o4.sl ?_
      intro ao5 c5 w5 m5 o5 k5 f5
      intros
      have hkl2 : (hd ++ tk).length = hl + d := by rw [List.length_append, htl, ← Hhl.out]
      have hnd : hl + d = n := by have := Hdd.out; omega
      rw [← List.map_append] at o5
      have hvP : kvP (putK ⟨x, ao5, c5, hd ++ tk⟩ ks) = putM x (ao5, hl + d, c5) (kvP ks) := by rw [kvP_put]; simp only [hkl2]
      have hz5 := k5.size
      have hlt5 := o5.lt
      have h5 := h4.stored (ks' := putK ⟨x, ao5, c5, hd ++ tk⟩ ks) (by rw [hvP]; exact m5) k5 (fun e he => by
        rcases mem_putK _ ks e he with rfl | he
        · refine ⟨?_, fun g hg => ⟨fun hm => ?_, hlt5 g hg⟩⟩
          · show Sl w5 1 ao5 (hd ++ tk).length c5 ((hd ++ tk).map B)
            rw [hkl2]; exact o5.sl
          · have := hlt4 g hm; have := f5 g hg; omega
        · have hk := h4.kr e he
          exact ⟨hk.1.keep k5 (fun g hg hm => by simp at hm; subst hm; exact (hk.2 _ hg).1 (by simp [fpI])), fun g hg => ⟨(hk.2 g hg).1, Nat.lt_of_lt_of_le (hk.2 g hg).2 hz5⟩⟩)
      have c165 := c164.keep k5 (by have := hlt K (by simp [fpI]); simp; omega)
      have hlk : lookV evK (.slice none 0 0) false (look x (kvP (putK ⟨x, ao5, c5, hd ++ tk⟩ ks))) = .slice ao5 (hl + d) c5 := by
        rw [hvP, look_putM, if_pos rfl]; rfl
      have K5 : Keep fp w w5 := K4.trans (k5.mono (fun g hg => by simp at hg; subst hg; rw [Hfp.out]; simp [fpI]))
      clear m5 k5 c164 o4 h4 shd4 K4
      go_upto_region 13 with (fail)
      refine key13 p K q16 x (kvP (putK ⟨x, ao5, c5, hd ++ tk⟩ ks)) ao5 (hl + d) c5 ((hd ++ tk).map B) n (by omega) (by omega) w5 (obj_cell h5.obj 2 rfl) h5.km hlk c165 o5.sl ?_
      intro ao6 c6 w6 o6 g6 f6
      intros
      rw [List.take_of_length_le (by rw [List.length_map, hkl2]; omega)] at o6
      have hC : CiS w6 p t (fpI p P K wf4 l) bs ⟨s.a + d, s.S, s.cnt, s.ag⟩ (putK ⟨x, ao5, c5, hd ++ tk⟩ ks) := ⟨P, K, wf4, rb, l, h5.grow g6, Habs.out, rfl⟩
      have hf := HR.out.new (by rw [← Hhd.out, ← Hhl.out]; omega) (by rw [← Hhd.out, ← Hhl.out, ← Hdd.out]; omega) ao6 c6 (putK ⟨x, ao5, c5, hd ++ tk⟩ ks) (fpI p P K wf4 l) w6 (by rw [← Hhd.out, ← Hhl.out, ← Hdd.out, ← htk]; exact o6) (by rw [← Hhd.out, ← Hhl.out, ← Hdd.out]; exact hC) (by rw [kvA_put, ← Hhd.out, ← Hhl.out, ← Hdd.out, ← htk]) (K5.trans (Keep.of_grow _ g6)) (fun g hg => by
        rw [Hfp.out]
        simp only [fpI, List.mem_cons, List.mem_append] at hg ⊢
        rcases hg with hg | hg | hg | hg | hg
        · exact .inl (.inl hg)
        · exact .inl (.inr (.inl hg))
        · exact .inl (.inr (.inr (.inl hg)))
        · rcases hi4 g hg with h | h
          · exact .inl (.inr (.inr (.inr (.inl h))))
          · right; omega
        · exact .inl (.inr (.inr (.inr (.inr hg))))) (fun g hg => by have := f6 g hg; omega) (fun g hg hm => by have := f6 g hg; have := h5.lt g hm; omega)
      clear HR hC h5
      go_wp2_with fail
      exact hf
end Go.Proofs.Ytfmnkcmicbnfdaa
