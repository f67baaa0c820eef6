/- The walk of StatsMakes. -/
import Derived.Test.YtklokbmpapjjiaaStP
open Go.RowKit Go.Own
namespace Go.Proofs.Ytklokbmpapjjiaa

set_option maxHeartbeats 8000000 in
set_option maxRecDepth 20000 in
theorem makes_walk (s t : SV) (hs : s.ok) (ht : t.ok) (x o : Nat) (hx : x < 4294967296) (ho : o < 4294967296) (w : World) (L : List Asn) (h : Hold w L) :
    Calls Try.prog 4 #[.agg (enc s).toArray, .agg (enc t).toArray, .int .u32 x, .int .u32 o] w fun e w' => e = .returned (.bool true) ∧ Hold w' L := by
  have hb := h.box2 26 26 (enc s) (enc t)
  have C1 := merge_ok s t hs ht
  have C2 := flips_ok x o hx ho
  have C3 := coarse_ok s hs
  have C4 := rmerge_ok s t hs ht
  have C5 := rflips_ok x o hx ho
  have C6 := rcoarse_ok s hs
  have E1 := eq26 (mrgV_ok (t := t) hs) (mrgV_ok (t := t) hs) (v := true) (by simp [same_refl])
  have E2 := eq26 (flipV_ok hx ho) (flipV_ok hx ho) (v := true) (by simp [same_refl])
  have E3 := eq26 (coaV_ok hs) (coaV_ok hs) (v := true) (by simp [same_refl])
  generalize mrgV s t = M at *
  generalize mrgE s t = me at *
  generalize flipV x o = F at *
  generalize flipE x o = fe at *
  generalize coaV s = K at *
  generalize coaE s = ke at *
  clear h
  go_enter Try.func4, Try.ntmps4
  go_upto_region 1 with (fail)
  refine gen_world hb (fun w0 h0 => ?_)
  generalize w.heap.size + 1 = bt at *
  generalize w.heap.size = bs at *
  go_upto_region 2 with (first
    | (refine wpList_yw (by rfl) (exec_load26 (by rfl) (by rfl) (h0.mv 1)) ?_)
    | (refine wpList_yw (by rfl) (exec_load26 (by rfl) (by rfl) (h0.mv 0)) ?_)
    | (go_at_call 22; refine (C1 _ _ h0).mono ?_; rintro e v1 ⟨rfl, g1⟩; have z1 := g1.boxZ 0)
    | (refine wp_store26 rfl _ _ (by rfl) v1.heap.size (by rfl) M (by rfl) z1 (fun w1 h1 => ?_)))
  generalize v1.heap.size = bm at *
  clear g1 z1
  go_upto_region 3 with (first
    | (go_at_call 23; refine (C2 _ _ h1).mono ?_; rintro e v2 ⟨rfl, g2⟩; have z2 := g2.boxZ 0)
    | (refine wp_store26 rfl _ _ (by rfl) v2.heap.size (by rfl) F (by rfl) z2 (fun w2 h2 => ?_)))
  generalize v2.heap.size = bf at *
  clear g2 z2
  go_upto_region 4 with (first
    | (refine wpList_yw (by rfl) (exec_load26 (by rfl) (by rfl) (h2.mv 3)) ?_)
    | (go_at_call 24; refine (C3 _ _ h2).mono ?_; rintro e v3 ⟨rfl, g3⟩; have z3 := g3.boxZ 0)
    | (refine wp_store26 rfl _ _ (by rfl) v3.heap.size (by rfl) K (by rfl) z3 (fun w3 h3 => ?_)))
  generalize v3.heap.size = bc at *
  clear g3 z3
  go_upto_region 5 with (first
    | (refine wpList_yw (by rfl) (exec_load26 (by rfl) (by rfl) (h3.mv 4)) ?_)
    | (refine wpList_yw (by rfl) (exec_load26 (by rfl) (by rfl) (h3.mv 3)) ?_)
    | (go_at_call 25; refine (C4 _ _ h3).mono ?_; rintro e v4 ⟨rfl, g4⟩; have z4 := g4.boxZ 0)
    | (refine wp_store26 rfl _ _ (by rfl) v4.heap.size (by rfl) M (by rfl) z4 (fun w4 h4 => ?_)))
  generalize v4.heap.size = bn at *
  clear g4 z4
  go_upto_region 6 with (first
    | (go_at_call 26; refine (C5 _ _ h4).mono ?_; rintro e v5 ⟨rfl, g5⟩; have z5 := g5.boxZ 0)
    | (refine wp_store26 rfl _ _ (by rfl) v5.heap.size (by rfl) F (by rfl) z5 (fun w5 h5 => ?_)))
  generalize v5.heap.size = bk at *
  clear g5 z5
  go_upto_region 7 with (first
    | (refine wpList_yw (by rfl) (exec_load26 (by rfl) (by rfl) (h5.mv 6)) ?_)
    | (go_at_call 27; refine (C6 _ _ h5).mono ?_; rintro e v6 ⟨rfl, g6⟩; have z6 := g6.boxZ 0)
    | (refine wp_store26 rfl _ _ (by rfl) v6.heap.size (by rfl) K (by rfl) z6 (fun w6 h6 => ?_)))
  generalize v6.heap.size = bd at *
  clear g6 z6
  clear C1 C2 C3 C4 C5 C6
  go_wp2_with (first
    | (refine wpList_yw (by rfl) (exec_load26 (by rfl) (by rfl) (h6.mv 5)) ?_)
    | (refine wpList_yw (by rfl) (exec_load26 (by rfl) (by rfl) (h6.mv 2)) ?_)
    | (refine wpList_yw (by rfl) (exec_load26 (by rfl) (by rfl) (h6.mv 4)) ?_)
    | (refine wpList_yw (by rfl) (exec_load26 (by rfl) (by rfl) (h6.mv 1)) ?_)
    | (refine wpList_yw (by rfl) (exec_load26 (by rfl) (by rfl) (h6.mv 3)) ?_)
    | (refine wpList_yw (by rfl) (exec_load26 (by rfl) (by rfl) (h6.mv 0)) ?_)
    | (refine wpList_yw (by rfl) (exec_agg_eql (by rfl) (by rfl) (by rfl) g26 E1 _) ?_)
    | (refine wpList_yw (by rfl) (exec_agg_eql (by rfl) (by rfl) (by rfl) g26 E2 _) ?_)
    | (refine wpList_yw (by rfl) (exec_agg_eql (by rfl) (by rfl) (by rfl) g26 E3 _) ?_)
    | (go_at_call 18; refine (num_any _ _ _ h6).mono ?_; rintro e w' ⟨rfl, rfl⟩)
    | (go_at_call 21; refine (knows_ok _ _ h6).mono ?_; rintro e w7 ⟨rfl, h7⟩))
  go_ret
  exact ⟨by simp, h7.drop.drop.drop.drop.drop.drop.drop.drop⟩

end Go.Proofs.Ytklokbmpapjjiaa
