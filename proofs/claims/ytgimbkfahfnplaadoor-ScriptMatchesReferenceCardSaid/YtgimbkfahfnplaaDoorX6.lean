/- The statement ScriptMatchesReference, walked with what its calls answer; conditions: those answers, and that the world holds Go's tables. -/
import Derived.Test.YtgimbkfahfnplaaDoorX5
import Derived.Test.YtgimbkfahfnplaaDoorB
import Derived.Test.YtgimbkfahfnplaaDoorA4
namespace Go.Proofs.YtgimbkfahfnplaaDoor.X6
open Go.RowKit Go.Lib Go.Proofs.YtgimbkfahfnplaaDoorW.PrintWords Go.Proofs.YtgimbkfahfnplaaDoorW.PrintLast Go.Proofs.YtgimbkfahfnplaaDoorW.PrintMore Go.Proofs.YtgimbkfahfnplaaDoor.X1 Go.Proofs.YtgimbkfahfnplaaDoor.X2 Go.Proofs.YtgimbkfahfnplaaDoor.X3 Go.Proofs.YtgimbkfahfnplaaDoor.X4 Go.Proofs.YtgimbkfahfnplaaDoor.X5 Go.Proofs.YtgimbkfahfnplaaDoor.A Go.Proofs.YtgimbkfahfnplaaDoor.B
set_option linter.unusedVariables false
set_option linter.unusedSimpArgs false
set_option maxHeartbeats 4000000 in
set_option maxRecDepth 100000 in
theorem out_few (a0 : Int) (A : Option Addr) (c : Nat) (l : List ByteArray) (kind : Int) (word text : ByteArray) (w : World) (hr : Kd.C Kd.string w A l.length l) (hc : l.length ≤ c) (hT : Tabs w)
    (kF : Nat) (hfew : customhouseref09_Few.f kF a0 l = some false) :
    Calls Tryd.prog 3 #[.agg #[.int .i64 a0, .slice A l.length c], .int .i64 kind, .string word, .string text] w fun e w' => e = .returned (.bool true) ∧ Below w.heap.size w w' := by
  have hu24 := Tryd.underlying24
  have HT0 := Aside0.mk hT
  have HB0 := Aside0.mk (Below.refl w.heap.size w)
  have Cl0 := Aside0.mk hr
  clear hT hr
  go_enter Tryd.func3, Tryd.ntmps3
  go_wp2_with (first | (go_at_call 11; refine (customhouselaw09_head.calls true _ rfl (HT0.out.below (below_alloc (Below.refl _ _) _))).mono ?_; rintro e w1 ⟨rfl, hb1⟩; have HT1 := Aside0.mk ((HT0.out.below (below_alloc (Below.refl _ _) _)).below hb1); have HB1 := Aside0.mk (below_step (below_alloc HB0.out _) hb1); have Cl1 := Aside0.mk (Kd.C_below (Kd.C_alloc Cl0.out _) hb1); clear Cl0; have BN1 := Aside0.mk (blk_below (blk_new w (.cells #[.int .i64 a0, .slice A l.length c] 24)) hb1); clear hb1 HT0 HB0; (try clear cBN0 cBN1); (try clear fBN0 fBN1); have fBN0 := blk_frozen BN1.out 0; have fBN1 := blk_frozen BN1.out 1; have cBN0 : w1.cell? ⟨w.heap.size, 0, none⟩ = some (.int .i64 a0) := (blk_cell BN1.out 0).trans rfl; have cBN1 : w1.cell? ⟨w.heap.size, 1, none⟩ = some (.slice A l.length c) := (blk_cell BN1.out 1).trans rfl) | (go_at_call 12; refine (customhouseref09_Few.calls kF a0 A c l false _ Cl1.out hc hfew).mono ?_; rintro e w2 ⟨rfl, hb2⟩; have HT2 := Aside0.mk (HT1.out.below hb2); have HB2 := Aside0.mk (below_step HB1.out hb2); have Cl2 := Aside0.mk (Kd.C_below Cl1.out hb2); clear Cl1; have BN2 := Aside0.mk (blk_below BN1.out hb2); clear BN1; clear hb2 HT1 HB1))
  go_ret
  exact ⟨rfl, HB2.out⟩
set_option maxHeartbeats 4000000 in
set_option maxRecDepth 100000 in
theorem out_short (a0 : Int) (A : Option Addr) (c : Nat) (l : List ByteArray) (kind : Int) (word text : ByteArray) (w : World) (hr : Kd.C Kd.string w A l.length l) (hc : l.length ≤ c) (hT : Tabs w)
    (kF kS : Nat) (hfew : customhouseref09_Few.f kF a0 l = some true) (hsh : customhouselaw09_short.f kS [word] = some false) :
    Calls Tryd.prog 3 #[.agg #[.int .i64 a0, .slice A l.length c], .int .i64 kind, .string word, .string text] w fun e w' => e = .returned (.bool true) ∧ Below w.heap.size w w' := by
  have hu24 := Tryd.underlying24
  have HT0 := Aside0.mk hT
  have HB0 := Aside0.mk (Below.refl w.heap.size w)
  have Cl0 := Aside0.mk hr
  clear hT hr
  go_enter Tryd.func3, Tryd.ntmps3
  go_wp2_with (first | (go_at_call 11; refine (customhouselaw09_head.calls true _ rfl (HT0.out.below (below_alloc (Below.refl _ _) _))).mono ?_; rintro e w1 ⟨rfl, hb1⟩; have HT1 := Aside0.mk ((HT0.out.below (below_alloc (Below.refl _ _) _)).below hb1); have HB1 := Aside0.mk (below_step (below_alloc HB0.out _) hb1); have Cl1 := Aside0.mk (Kd.C_below (Kd.C_alloc Cl0.out _) hb1); clear Cl0; have BN1 := Aside0.mk (blk_below (blk_new w (.cells #[.int .i64 a0, .slice A l.length c] 24)) hb1); clear hb1 HT0 HB0; (try clear cBN0 cBN1); (try clear fBN0 fBN1); have fBN0 := blk_frozen BN1.out 0; have fBN1 := blk_frozen BN1.out 1; have cBN0 : w1.cell? ⟨w.heap.size, 0, none⟩ = some (.int .i64 a0) := (blk_cell BN1.out 0).trans rfl; have cBN1 : w1.cell? ⟨w.heap.size, 1, none⟩ = some (.slice A l.length c) := (blk_cell BN1.out 1).trans rfl) | (go_at_call 12; refine (customhouseref09_Few.calls kF a0 A c l true _ Cl1.out hc hfew).mono ?_; rintro e w2 ⟨rfl, hb2⟩; have HT2 := Aside0.mk (HT1.out.below hb2); have HB2 := Aside0.mk (below_step HB1.out hb2); have Cl2 := Aside0.mk (Kd.C_below Cl1.out hb2); clear Cl1; have BN2 := Aside0.mk (blk_below BN1.out hb2); clear BN1; clear hb2 HT1 HB1) | (go_at_call 13; refine (customhouselaw09_short.calls kS _ 1 [word] false _ (lit_C w2 [word] (by simp) _ rfl) (by simp) hsh).mono ?_; rintro e w3 ⟨rfl, hb3⟩; replace hb3 := hb3.below; have HT3 := Aside0.mk ((HT2.out.below (below_alloc (Below.refl _ _) _)).below hb3); have HB3 := Aside0.mk (below_step (below_alloc HB2.out _) hb3); have Cl3 := Aside0.mk (Kd.C_below (Kd.C_alloc Cl2.out _) hb3); clear Cl2; have BN3 := Aside0.mk (blk_below (blk_alloc BN2.out _) hb3); clear BN2; clear hb3 HT2 HB2))
  go_ret
  exact ⟨rfl, HB3.out⟩
set_option maxHeartbeats 4000000 in
set_option maxRecDepth 100000 in
theorem out_text (a0 : Int) (A : Option Addr) (c : Nat) (l : List ByteArray) (kind : Int) (word text : ByteArray) (w : World) (hr : Kd.C Kd.string w A l.length l) (hc : l.length ≤ c) (hT : Tabs w)
    (kF kS : Nat) (hfew : customhouseref09_Few.f kF a0 l = some true) (hsh : customhouselaw09_short.f kS [word] = some true) (hz : decide ((text.size : Int) > 2000) = true) :
    Calls Tryd.prog 3 #[.agg #[.int .i64 a0, .slice A l.length c], .int .i64 kind, .string word, .string text] w fun e w' => e = .returned (.bool true) ∧ Below w.heap.size w w' := by
  have hu24 := Tryd.underlying24
  have HT0 := Aside0.mk hT
  have HB0 := Aside0.mk (Below.refl w.heap.size w)
  have Cl0 := Aside0.mk hr
  clear hT hr
  go_enter Tryd.func3, Tryd.ntmps3
  go_wp2_with (first | (go_at_call 11; refine (customhouselaw09_head.calls true _ rfl (HT0.out.below (below_alloc (Below.refl _ _) _))).mono ?_; rintro e w1 ⟨rfl, hb1⟩; have HT1 := Aside0.mk ((HT0.out.below (below_alloc (Below.refl _ _) _)).below hb1); have HB1 := Aside0.mk (below_step (below_alloc HB0.out _) hb1); have Cl1 := Aside0.mk (Kd.C_below (Kd.C_alloc Cl0.out _) hb1); clear Cl0; have BN1 := Aside0.mk (blk_below (blk_new w (.cells #[.int .i64 a0, .slice A l.length c] 24)) hb1); clear hb1 HT0 HB0; (try clear cBN0 cBN1); (try clear fBN0 fBN1); have fBN0 := blk_frozen BN1.out 0; have fBN1 := blk_frozen BN1.out 1; have cBN0 : w1.cell? ⟨w.heap.size, 0, none⟩ = some (.int .i64 a0) := (blk_cell BN1.out 0).trans rfl; have cBN1 : w1.cell? ⟨w.heap.size, 1, none⟩ = some (.slice A l.length c) := (blk_cell BN1.out 1).trans rfl) | (go_at_call 12; refine (customhouseref09_Few.calls kF a0 A c l true _ Cl1.out hc hfew).mono ?_; rintro e w2 ⟨rfl, hb2⟩; have HT2 := Aside0.mk (HT1.out.below hb2); have HB2 := Aside0.mk (below_step HB1.out hb2); have Cl2 := Aside0.mk (Kd.C_below Cl1.out hb2); clear Cl1; have BN2 := Aside0.mk (blk_below BN1.out hb2); clear BN1; clear hb2 HT1 HB1) | (go_at_call 13; refine (customhouselaw09_short.calls kS _ 1 [word] true _ (lit_C w2 [word] (by simp) _ rfl) (by simp) hsh).mono ?_; rintro e w3 ⟨rfl, hb3⟩; replace hb3 := hb3.below; have HT3 := Aside0.mk ((HT2.out.below (below_alloc (Below.refl _ _) _)).below hb3); have HB3 := Aside0.mk (below_step (below_alloc HB2.out _) hb3); have Cl3 := Aside0.mk (Kd.C_below (Kd.C_alloc Cl2.out _) hb3); clear Cl2; have BN3 := Aside0.mk (blk_below (blk_alloc BN2.out _) hb3); clear BN2; clear hb3 HT2 HB2))
  go_ret
  exact ⟨rfl, HB3.out⟩
set_option maxHeartbeats 4000000 in
set_option maxRecDepth 100000 in
theorem inside (a0 : Int) (A : Option Addr) (c : Nat) (l : List ByteArray) (kind : Int) (word text : ByteArray) (w : World) (hr : Kd.C Kd.string w A l.length l) (hc : l.length ≤ c) (hT : Tabs w)
    (kF kS k : Nat) (hfew : customhouseref09_Few.f kF a0 l = some true) (hsh : customhouselaw09_short.f kS [word] = some true) (hz : decide ((text.size : Int) > 2000) = false)
    (ls : List ByteArray) (le : Int) (hL : script_Letters.f kind word = some (ls, le)) (hL' : customhouseref09_Letters.f k kind word = some (ls, le))
    (fs : ByteArray) (fe : Int) (hF : script_Fold.f kind word = some (fs, fe)) (hF' : customhouseref09_Fold.f k kind word = some (fs, fe))
    (ts : ByteArray) (te : Int) (hX : script_Text.f a0 l = some (ts, te)) (hX' : customhouseref09_Text.f k a0 l = some (ts, te))
    (ps : Int) (pw : List ByteArray) (pe pa : Int) (hP : script_Parse.f text = some (ps, pw, pe, pa)) (hP' : customhouseref09_Parse.f k text = some (ps, pw, pe, pa))
    (v : Bool) (hV : script_Valid.f k a0 l = some v) (hV' : customhouseref09_Valid.f k a0 l = some v)
    (hTx : customhouseref09_Texts.f k ls ls = some true) (hSm : customhouseref09_Same.f k ps pw ps pw = some true) :
    Calls Tryd.prog 3 #[.agg #[.int .i64 a0, .slice A l.length c], .int .i64 kind, .string word, .string text] w fun e w' => e = .returned (.bool true) ∧ Below w.heap.size w w' := by
  have hu24 := Tryd.underlying24
  have HT0 := Aside0.mk hT
  have HB0 := Aside0.mk (Below.refl w.heap.size w)
  have Cl0 := Aside0.mk hr
  clear hT hr
  go_enter Tryd.func3, Tryd.ntmps3
  go_wp2_with (first | (go_at_call 11; refine (customhouselaw09_head.calls true _ rfl (HT0.out.below (below_alloc (Below.refl _ _) _))).mono ?_; rintro e w1 ⟨rfl, hb1⟩; have HT1 := Aside0.mk ((HT0.out.below (below_alloc (Below.refl _ _) _)).below hb1); have HB1 := Aside0.mk (below_step (below_alloc HB0.out _) hb1); have Cl1 := Aside0.mk (Kd.C_below (Kd.C_alloc Cl0.out _) hb1); clear Cl0; have BN1 := Aside0.mk (blk_below (blk_new w (.cells #[.int .i64 a0, .slice A l.length c] 24)) hb1); clear hb1 HT0 HB0; (try clear cBN0 cBN1); (try clear fBN0 fBN1); have fBN0 := blk_frozen BN1.out 0; have fBN1 := blk_frozen BN1.out 1; have cBN0 : w1.cell? ⟨w.heap.size, 0, none⟩ = some (.int .i64 a0) := (blk_cell BN1.out 0).trans rfl; have cBN1 : w1.cell? ⟨w.heap.size, 1, none⟩ = some (.slice A l.length c) := (blk_cell BN1.out 1).trans rfl) | (go_at_call 12; refine (customhouseref09_Few.calls kF a0 A c l true _ Cl1.out hc hfew).mono ?_; rintro e w2 ⟨rfl, hb2⟩; have HT2 := Aside0.mk (HT1.out.below hb2); have HB2 := Aside0.mk (below_step HB1.out hb2); have Cl2 := Aside0.mk (Kd.C_below Cl1.out hb2); clear Cl1; have BN2 := Aside0.mk (blk_below BN1.out hb2); clear BN1; clear hb2 HT1 HB1) | (go_at_call 13; refine (customhouselaw09_short.calls kS _ 1 [word] true _ (lit_C w2 [word] (by simp) _ rfl) (by simp) hsh).mono ?_; rintro e w3 ⟨rfl, hb3⟩; replace hb3 := hb3.below; have HT3 := Aside0.mk ((HT2.out.below (below_alloc (Below.refl _ _) _)).below hb3); have HB3 := Aside0.mk (below_step (below_alloc HB2.out _) hb3); have Cl3 := Aside0.mk (Kd.C_below (Kd.C_alloc Cl2.out _) hb3); clear Cl2; have BN3 := Aside0.mk (blk_below (blk_alloc BN2.out _) hb3); clear BN2; clear hb3 HT2 HB2) | (go_at_call 14; refine (script_Letters.calls kind word ls le _ hL HT3.out).mono ?_; rintro e w4 ⟨va, rfl, hra, hb4⟩; have HT4 := Aside0.mk (HT3.out.below hb4); have HB4 := Aside0.mk (below_step HB3.out hb4); have Cl4 := Aside0.mk (Kd.C_below Cl3.out hb4); clear Cl3; have BN4 := Aside0.mk (blk_below BN3.out hb4); clear BN3; clear hb4 HT3 HB3; obtain ⟨Aa, ca, rfl, hla, hca⟩ := Kd.R_reads hra; have Ca4 := Aside0.mk hca; clear hca hra) | (go_at_call 15; refine (customhouseref09_Letters.calls k kind word ls le _ hL').mono ?_; rintro e w5 ⟨vb, rfl, hrb, hb5⟩; have HT5 := Aside0.mk (HT4.out.below hb5); have HB5 := Aside0.mk (below_step HB4.out hb5); have Cl5 := Aside0.mk (Kd.C_below Cl4.out hb5); clear Cl4; have Ca5 := Aside0.mk (Kd.C_below Ca4.out hb5); clear Ca4; have BN5 := Aside0.mk (blk_below BN4.out hb5); clear BN4; clear hb5 HT4 HB4; obtain ⟨Ab, cb, rfl, hlb, hcb⟩ := Kd.R_reads hrb; have Cb5 := Aside0.mk hcb; clear hcb hrb) | (go_at_call 16; refine (script_Fold.calls kind word fs fe _ hF HT5.out).mono ?_; rintro e w6 ⟨rfl, hb6⟩; have HT6 := Aside0.mk (HT5.out.below hb6); have HB6 := Aside0.mk (below_step HB5.out hb6); have Cl6 := Aside0.mk (Kd.C_below Cl5.out hb6); clear Cl5; have Ca6 := Aside0.mk (Kd.C_below Ca5.out hb6); clear Ca5; have Cb6 := Aside0.mk (Kd.C_below Cb5.out hb6); clear Cb5; have BN6 := Aside0.mk (blk_below BN5.out hb6); clear BN5; clear hb6 HT5 HB5) | (go_at_call 17; refine (customhouseref09_Fold.calls k kind word fs fe _ hF').mono ?_; rintro e w7 ⟨rfl, hb7⟩; have HT7 := Aside0.mk (HT6.out.below hb7); have HB7 := Aside0.mk (below_step HB6.out hb7); have Cl7 := Aside0.mk (Kd.C_below Cl6.out hb7); clear Cl6; have Ca7 := Aside0.mk (Kd.C_below Ca6.out hb7); clear Ca6; have Cb7 := Aside0.mk (Kd.C_below Cb6.out hb7); clear Cb6; have BN7 := Aside0.mk (blk_below BN6.out hb7); clear BN6; clear hb7 HT6 HB6; (try clear cBN0 cBN1); (try clear fBN0 fBN1); have fBN0 := blk_frozen BN7.out 0; have fBN1 := blk_frozen BN7.out 1; have cBN0 : w7.cell? ⟨w.heap.size, 0, none⟩ = some (.int .i64 a0) := (blk_cell BN7.out 0).trans rfl; have cBN1 : w7.cell? ⟨w.heap.size, 1, none⟩ = some (.slice A l.length c) := (blk_cell BN7.out 1).trans rfl) | (go_at_call 18; refine (script_Text.calls a0 A c l ts te _ Cl7.out hc hX HT7.out).mono ?_; rintro e w8 ⟨rfl, hb8⟩; have HT8 := Aside0.mk (HT7.out.below hb8); have HB8 := Aside0.mk (below_step HB7.out hb8); have Cl8 := Aside0.mk (Kd.C_below Cl7.out hb8); clear Cl7; have Ca8 := Aside0.mk (Kd.C_below Ca7.out hb8); clear Ca7; have Cb8 := Aside0.mk (Kd.C_below Cb7.out hb8); clear Cb7; have BN8 := Aside0.mk (blk_below BN7.out hb8); clear BN7; clear hb8 HT7 HB7; (try clear cBN0 cBN1); (try clear fBN0 fBN1); have fBN0 := blk_frozen BN8.out 0; have fBN1 := blk_frozen BN8.out 1; have cBN0 : w8.cell? ⟨w.heap.size, 0, none⟩ = some (.int .i64 a0) := (blk_cell BN8.out 0).trans rfl; have cBN1 : w8.cell? ⟨w.heap.size, 1, none⟩ = some (.slice A l.length c) := (blk_cell BN8.out 1).trans rfl) | (go_at_call 19; refine (customhouseref09_Text.calls k a0 A c l ts te _ Cl8.out hc hX').mono ?_; rintro e w9 ⟨rfl, hb9⟩; have HT9 := Aside0.mk (HT8.out.below hb9); have HB9 := Aside0.mk (below_step HB8.out hb9); have Cl9 := Aside0.mk (Kd.C_below Cl8.out hb9); clear Cl8; have Ca9 := Aside0.mk (Kd.C_below Ca8.out hb9); clear Ca8; have Cb9 := Aside0.mk (Kd.C_below Cb8.out hb9); clear Cb8; have BN9 := Aside0.mk (blk_below BN8.out hb9); clear BN8; clear hb9 HT8 HB8; (try clear cBN0 cBN1); (try clear fBN0 fBN1); have fBN0 := blk_frozen BN9.out 0; have fBN1 := blk_frozen BN9.out 1; have cBN0 : w9.cell? ⟨w.heap.size, 0, none⟩ = some (.int .i64 a0) := (blk_cell BN9.out 0).trans rfl; have cBN1 : w9.cell? ⟨w.heap.size, 1, none⟩ = some (.slice A l.length c) := (blk_cell BN9.out 1).trans rfl) | (go_at_call 20; refine (script_Parse.calls text ps pw pe pa _ hP HT9.out).mono ?_; rintro e w10 ⟨vx, rfl, hrx, hb10⟩; have HT10 := Aside0.mk (HT9.out.below hb10); have HB10 := Aside0.mk (below_step HB9.out hb10); have Cl10 := Aside0.mk (Kd.C_below Cl9.out hb10); clear Cl9; have Ca10 := Aside0.mk (Kd.C_below Ca9.out hb10); clear Ca9; have Cb10 := Aside0.mk (Kd.C_below Cb9.out hb10); clear Cb9; have BN10 := Aside0.mk (blk_below BN9.out hb10); clear BN9; clear hb10 HT9 HB9; obtain ⟨Ax, cx, rfl, hlx, hcx⟩ := Kd.R_reads hrx; have Cx10 := Aside0.mk hcx; clear hcx hrx) | (go_at_call 21; refine (customhouseref09_Parse.calls k text ps pw pe pa _ hP').mono ?_; rintro e w11 ⟨vy, rfl, hry, hb11⟩; have HT11 := Aside0.mk ((HT10.out.below (below_alloc (Below.refl _ _) _)).below hb11); have HB11 := Aside0.mk (below_step (below_alloc HB10.out _) hb11); have Cl11 := Aside0.mk (Kd.C_below (Kd.C_alloc Cl10.out _) hb11); clear Cl10; have Ca11 := Aside0.mk (Kd.C_below (Kd.C_alloc Ca10.out _) hb11); clear Ca10; have Cb11 := Aside0.mk (Kd.C_below (Kd.C_alloc Cb10.out _) hb11); clear Cb10; have Cx11 := Aside0.mk (Kd.C_below (Kd.C_alloc Cx10.out _) hb11); clear Cx10; have BN11 := Aside0.mk (blk_below (blk_alloc BN10.out _) hb11); clear BN10; have BX11 := Aside0.mk (blk_below (blk_new w10 (.cells #[.int .i64 ps, .slice Ax pw.length cx] 24)) hb11); clear hb11 HT10 HB10; obtain ⟨Ay, cy, rfl, hly, hcy⟩ := Kd.R_reads hry; have Cy11 := Aside0.mk hcy; clear hcy hry))
  have BN' := Aside0.mk (blk_drew (blk_alloc BN11.out (.cells #[.int .i64 ps, .slice Ay pw.length cy] 24)))
  have BX' := Aside0.mk (blk_drew (blk_alloc BX11.out (.cells #[.int .i64 ps, .slice Ay pw.length cy] 24)))
  have BY' := Aside0.mk (blk_drew (blk_new w11 (.cells #[.int .i64 ps, .slice Ay pw.length cy] 24)))
  have HB' := Aside0.mk (below_drew (below_alloc HB11.out (.cells #[.int .i64 ps, .slice Ay pw.length cy] 24)))
  have HT' := Aside0.mk (HT11.out.below (below_drew (below_alloc (Below.refl _ _) (.cells #[.int .i64 ps, .slice Ay pw.length cy] 24))))
  have Cl' := Aside0.mk (Kd.C_drew (Kd.C_alloc Cl11.out (.cells #[.int .i64 ps, .slice Ay pw.length cy] 24)))
  have Ca' := Aside0.mk (Kd.C_drew (Kd.C_alloc Ca11.out (.cells #[.int .i64 ps, .slice Ay pw.length cy] 24)))
  have Cb' := Aside0.mk (Kd.C_drew (Kd.C_alloc Cb11.out (.cells #[.int .i64 ps, .slice Ay pw.length cy] 24)))
  have Cx' := Aside0.mk (Kd.C_drew (Kd.C_alloc Cx11.out (.cells #[.int .i64 ps, .slice Ay pw.length cy] 24)))
  have Cy' := Aside0.mk (Kd.C_drew (Kd.C_alloc Cy11.out (.cells #[.int .i64 ps, .slice Ay pw.length cy] 24)))
  clear BN11 BX11 HB11 HT11 Cl11 Ca11 Cb11 Cx11 Cy11
  try clear cBN0 cBN1
  refine start_ (n := 26) (S := fun w' => w'.cell? ⟨w.heap.size, 0, none⟩ = some (.int .i64 a0) ∧ w'.cell? ⟨w.heap.size, 1, none⟩ = some (.slice A l.length c)) (ds := []) #[false, false, false, false, false, false, false, false, false, false, false, false, false, false, false, false, false, false, false, false, false, false, false, false, false, false] (by kernel_rfl) rfl rfl ⟨(blk_cell BN'.out 0).trans rfl, (blk_cell BN'.out 1).trans rfl⟩ (fun hHeld => ?_)
  generalize (World.alloc w11 (.cells #[.int .i64 ps, .slice Ay pw.length cy] 24)).drew = w0' at BN' BX' BY' HB' HT' Cl' Ca' Cb' Cx' Cy' hHeld ⊢
  refine take_ (i := 0) (N := some 91) (v := ?_) (a' := ?_) #[true, false, false, false, false, false, false, false, false, false, false, false, false, false, false, false, false, false, false, false, false, false, false, false, false, false] rfl rfl (by kernel_rfl) (fun _ _ _ h => h) (Or.inl ⟨by rfl, ?_⟩) hHeld ?_ ?_
  rotate_left
  · rintro w' ⟨s0, s1⟩
    go_simp
    with_reducible rfl
  rotate_left
  · simp only [Act.put, List.setIfInBounds_toArray, List.set_cons_zero, List.set_cons_succ, i64_w, i32_w]
    rfl
  refine take_ (i := 2) (N := some 93) (v := ?_) (a' := ?_) #[true, false, true, false, false, false, false, false, false, false, false, false, false, false, false, false, false, false, false, false, false, false, false, false, false, false] rfl rfl (by kernel_rfl) (fun _ _ _ h => h) (Or.inl ⟨by rfl, ?_⟩) hHeld ?_ ?_
  rotate_left
  · rintro w' ⟨s0, s1⟩
    go_simp
    with_reducible rfl
  rotate_left
  · simp only [Act.put, List.setIfInBounds_toArray, List.set_cons_zero, List.set_cons_succ, i64_w, i32_w]
    rfl
  refine one_ (i := 1) (N := some 92) #[true, true, true, false, false, false, false, false, false, false, false, false, false, false, false, false, false, false, false, false, false, false, false, false, false, false] rfl rfl (by kernel_rfl) (by decide) (fun K hK => ?_)
  refine goes_ Tryd.func22 (by kernel_rfl) rfl #[.agg #[.int .i64 a0, .slice A l.length c]] (by rfl) rfl rfl (by (try simp only [List.map_toArray, List.map_cons, List.map_nil]); first | done | rfl) ?_
  with_reducible refine (script_Valid.calls k a0 A c l v _ Cl'.out hc hV HT'.out).mono ?_
  rintro e w1' ⟨rfl, hb⟩
  refine ⟨_, rfl, ?_⟩
  replace BN' := Aside0.mk (blk_below BN'.out hb)
  replace BX' := Aside0.mk (blk_below BX'.out hb)
  replace BY' := Aside0.mk (blk_below BY'.out hb)
  replace HB' := Aside0.mk (below_step HB'.out hb)
  replace HT' := Aside0.mk (HT'.out.below hb)
  replace Cl' := Aside0.mk (Kd.C_below Cl'.out hb)
  replace Ca' := Aside0.mk (Kd.C_below Ca'.out hb)
  replace Cb' := Aside0.mk (Kd.C_below Cb'.out hb)
  replace Cx' := Aside0.mk (Kd.C_below Cx'.out hb)
  replace Cy' := Aside0.mk (Kd.C_below Cy'.out hb)
  clear hb
  refine hK.out _ _ ⟨(blk_cell BN'.out 0).trans rfl, (blk_cell BN'.out 1).trans rfl⟩ (fun hHeld => ?_)
  clear hK K
  refine norm_ (a' := ?_) ?_ ?_
  rotate_left
  · show Act.put _ (some 92) _ = _
    simp only [Act.put, List.setIfInBounds_toArray, List.set_cons_zero, List.set_cons_succ, i64_w, i32_w]
    rfl
  refine one_ (i := 3) (N := some 94) #[true, true, true, true, false, false, false, false, false, false, false, false, false, false, false, false, false, false, false, false, false, false, false, false, false, false] rfl rfl (by kernel_rfl) (by decide) (fun K hK => ?_)
  refine goes_ Tryd.func23 (by kernel_rfl) rfl #[.agg #[.int .i64 a0, .slice A l.length c]] (by rfl) rfl rfl (by (try simp only [List.map_toArray, List.map_cons, List.map_nil]); first | done | rfl) ?_
  with_reducible refine (customhouseref09_Valid.calls k a0 A c l v _ Cl'.out hc hV').mono ?_
  rintro e w3' ⟨rfl, hb⟩
  refine ⟨_, rfl, ?_⟩
  replace BN' := Aside0.mk (blk_below BN'.out hb)
  replace BX' := Aside0.mk (blk_below BX'.out hb)
  replace BY' := Aside0.mk (blk_below BY'.out hb)
  replace HB' := Aside0.mk (below_step HB'.out hb)
  replace HT' := Aside0.mk (HT'.out.below hb)
  replace Cl' := Aside0.mk (Kd.C_below Cl'.out hb)
  replace Ca' := Aside0.mk (Kd.C_below Ca'.out hb)
  replace Cb' := Aside0.mk (Kd.C_below Cb'.out hb)
  replace Cx' := Aside0.mk (Kd.C_below Cx'.out hb)
  replace Cy' := Aside0.mk (Kd.C_below Cy'.out hb)
  clear hb
  refine hK.out _ _ ⟨(blk_cell BN'.out 0).trans rfl, (blk_cell BN'.out 1).trans rfl⟩ (fun hHeld => ?_)
  clear hK K
  refine norm_ (a' := ?_) ?_ ?_
  rotate_left
  · show Act.put _ (some 94) _ = _
    simp only [Act.put, List.setIfInBounds_toArray, List.set_cons_zero, List.set_cons_succ, i64_w, i32_w]
    rfl
  refine pure_ (i := 4) (N := some 95) (v := ?_) (a' := ?_) #[true, true, true, true, true, false, false, false, false, false, false, false, false, false, false, false, false, false, false, false, false, false, false, false, false, false] rfl rfl (by kernel_rfl) (fun _ _ _ h => h) (Or.inl ⟨by rfl, ?_⟩) ?_ ?_
  rotate_left
  · intro w'
    go_simp
    with_reducible rfl
  rotate_left
  · simp only [Act.put, List.setIfInBounds_toArray, List.set_cons_zero, List.set_cons_succ, i64_w, i32_w]
    rfl
  refine pure_ (i := 5) (N := some 96) (v := ?_) (a' := ?_) #[true, true, true, true, true, true, false, false, false, false, false, false, false, false, false, false, false, false, false, false, false, false, false, false, false, false] rfl rfl (by kernel_rfl) (fun _ _ _ h => h) (Or.inl ⟨by rfl, ?_⟩) ?_ ?_
  rotate_left
  · intro w'
    go_simp
    with_reducible rfl
  rotate_left
  · simp only [Act.put, List.setIfInBounds_toArray, List.set_cons_zero, List.set_cons_succ, i64_w, i32_w]
    rfl
  refine pure_ (i := 6) (N := some 97) (v := ?_) (a' := ?_) #[true, true, true, true, true, true, true, false, false, false, false, false, false, false, false, false, false, false, false, false, false, false, false, false, false, false] rfl rfl (by kernel_rfl) (fun _ _ _ h => h) (Or.inl ⟨by rfl, ?_⟩) ?_ ?_
  rotate_left
  · intro w'
    go_simp
    with_reducible rfl
  rotate_left
  · simp only [Act.put, List.setIfInBounds_toArray, List.set_cons_zero, List.set_cons_succ, i64_w, i32_w]
    rfl
  refine pure_ (i := 7) (N := some 98) (v := ?_) (a' := ?_) #[true, true, true, true, true, true, true, true, false, false, false, false, false, false, false, false, false, false, false, false, false, false, false, false, false, false] rfl rfl (by kernel_rfl) (fun _ _ _ h => h) (Or.inl ⟨by rfl, ?_⟩) ?_ ?_
  rotate_left
  · intro w'
    go_simp
    with_reducible rfl
  rotate_left
  · simp only [Act.put, List.setIfInBounds_toArray, List.set_cons_zero, List.set_cons_succ, i64_w, i32_w]
    rfl
  refine one_ (i := 8) (N := some 99) #[true, true, true, true, true, true, true, true, true, false, false, false, false, false, false, false, false, false, false, false, false, false, false, false, false, false] rfl rfl (by kernel_rfl) (by decide) (fun K hK => ?_)
  refine goes_ Tryd.func24 (by kernel_rfl) rfl #[.slice Aa ls.length ca, .slice Ab ls.length cb] (by rfl) rfl rfl (by (try simp only [List.map_toArray, List.map_cons, List.map_nil]); first | done | rfl) ?_
  with_reducible refine (customhouseref09_Texts.calls k Aa ca ls Ab cb ls true _ Ca'.out hla Cb'.out hlb hTx).mono ?_
  rintro e w8' ⟨rfl, hb⟩
  refine ⟨_, rfl, ?_⟩
  replace hb := hb.below
  replace BN' := Aside0.mk (blk_below BN'.out hb)
  replace BX' := Aside0.mk (blk_below BX'.out hb)
  replace BY' := Aside0.mk (blk_below BY'.out hb)
  replace HB' := Aside0.mk (below_step HB'.out hb)
  replace HT' := Aside0.mk (HT'.out.below hb)
  replace Cl' := Aside0.mk (Kd.C_below Cl'.out hb)
  replace Ca' := Aside0.mk (Kd.C_below Ca'.out hb)
  replace Cb' := Aside0.mk (Kd.C_below Cb'.out hb)
  replace Cx' := Aside0.mk (Kd.C_below Cx'.out hb)
  replace Cy' := Aside0.mk (Kd.C_below Cy'.out hb)
  clear hb
  refine hK.out _ _ ⟨(blk_cell BN'.out 0).trans rfl, (blk_cell BN'.out 1).trans rfl⟩ (fun hHeld => ?_)
  clear hK K
  refine norm_ (a' := ?_) ?_ ?_
  rotate_left
  · show Act.put _ (some 99) _ = _
    simp only [Act.put, List.setIfInBounds_toArray, List.set_cons_zero, List.set_cons_succ, i64_w, i32_w]
    rfl
  refine pure_ (i := 9) (N := some 100) (v := ?_) (a' := ?_) #[true, true, true, true, true, true, true, true, true, true, false, false, false, false, false, false, false, false, false, false, false, false, false, false, false, false] rfl rfl (by kernel_rfl) (fun _ _ _ h => h) (Or.inl ⟨by rfl, ?_⟩) ?_ ?_
  rotate_left
  · intro w'
    go_simp
    with_reducible rfl
  rotate_left
  · simp only [Act.put, List.setIfInBounds_toArray, List.set_cons_zero, List.set_cons_succ, i64_w, i32_w]
    rfl
  refine pure_ (i := 10) (N := some 101) (v := ?_) (a' := ?_) #[true, true, true, true, true, true, true, true, true, true, true, false, false, false, false, false, false, false, false, false, false, false, false, false, false, false] rfl rfl (by kernel_rfl) (fun _ _ _ h => h) (Or.inl ⟨by rfl, ?_⟩) ?_ ?_
  rotate_left
  · intro w'
    go_simp
    with_reducible rfl
  rotate_left
  · simp only [Act.put, List.setIfInBounds_toArray, List.set_cons_zero, List.set_cons_succ, i64_w, i32_w]
    rfl
  refine pure_ (i := 11) (N := some 102) (v := ?_) (a' := ?_) #[true, true, true, true, true, true, true, true, true, true, true, true, false, false, false, false, false, false, false, false, false, false, false, false, false, false] rfl rfl (by kernel_rfl) (fun _ _ _ h => h) (Or.inl ⟨by rfl, ?_⟩) ?_ ?_
  rotate_left
  · intro w'
    go_simp
    with_reducible rfl
  rotate_left
  · simp only [Act.put, List.setIfInBounds_toArray, List.set_cons_zero, List.set_cons_succ, i64_w, i32_w]
    rfl
  refine pure_ (i := 12) (N := some 103) (v := ?_) (a' := ?_) #[true, true, true, true, true, true, true, true, true, true, true, true, true, false, false, false, false, false, false, false, false, false, false, false, false, false] rfl rfl (by kernel_rfl) (fun _ _ _ h => h) (Or.inl ⟨by rfl, ?_⟩) ?_ ?_
  rotate_left
  · intro w'
    go_simp
    with_reducible rfl
  rotate_left
  · simp only [Act.put, List.setIfInBounds_toArray, List.set_cons_zero, List.set_cons_succ, i64_w, i32_w]
    rfl
  refine pure_ (i := 13) (N := some 104) (v := ?_) (a' := ?_) #[true, true, true, true, true, true, true, true, true, true, true, true, true, true, false, false, false, false, false, false, false, false, false, false, false, false] rfl rfl (by kernel_rfl) (fun _ _ _ h => h) (Or.inl ⟨by rfl, ?_⟩) ?_ ?_
  rotate_left
  · intro w'
    go_simp
    with_reducible rfl
  rotate_left
  · simp only [Act.put, List.setIfInBounds_toArray, List.set_cons_zero, List.set_cons_succ, i64_w, i32_w]
    rfl
  refine pure_ (i := 14) (N := some 105) (v := ?_) (a' := ?_) #[true, true, true, true, true, true, true, true, true, true, true, true, true, true, true, false, false, false, false, false, false, false, false, false, false, false] rfl rfl (by kernel_rfl) (fun _ _ _ h => h) (Or.inl ⟨by rfl, ?_⟩) ?_ ?_
  rotate_left
  · intro w'
    go_simp
    with_reducible rfl
  rotate_left
  · simp only [Act.put, List.setIfInBounds_toArray, List.set_cons_zero, List.set_cons_succ, i64_w, i32_w]
    rfl
  refine pure_ (i := 15) (N := some 106) (v := ?_) (a' := ?_) #[true, true, true, true, true, true, true, true, true, true, true, true, true, true, true, true, false, false, false, false, false, false, false, false, false, false] rfl rfl (by kernel_rfl) (fun _ _ _ h => h) (Or.inl ⟨by rfl, ?_⟩) ?_ ?_
  rotate_left
  · intro w'
    go_simp
    with_reducible rfl
  rotate_left
  · simp only [Act.put, List.setIfInBounds_toArray, List.set_cons_zero, List.set_cons_succ, i64_w, i32_w]
    rfl
  refine pure_ (i := 16) (N := some 107) (v := ?_) (a' := ?_) #[true, true, true, true, true, true, true, true, true, true, true, true, true, true, true, true, true, false, false, false, false, false, false, false, false, false] rfl rfl (by kernel_rfl) (fun _ _ _ h => h) (Or.inl ⟨by rfl, ?_⟩) ?_ ?_
  rotate_left
  · intro w'
    go_simp
    with_reducible rfl
  rotate_left
  · simp only [Act.put, List.setIfInBounds_toArray, List.set_cons_zero, List.set_cons_succ, i64_w, i32_w]
    rfl
  refine pure_ (i := 17) (N := some 108) (v := ?_) (a' := ?_) #[true, true, true, true, true, true, true, true, true, true, true, true, true, true, true, true, true, true, false, false, false, false, false, false, false, false] rfl rfl (by kernel_rfl) (fun _ _ _ h => h) (Or.inl ⟨by rfl, ?_⟩) ?_ ?_
  rotate_left
  · intro w'
    go_simp
    with_reducible rfl
  rotate_left
  · simp only [Act.put, List.setIfInBounds_toArray, List.set_cons_zero, List.set_cons_succ, i64_w, i32_w]
    rfl
  refine pure_ (i := 18) (N := some 109) (v := ?_) (a' := ?_) #[true, true, true, true, true, true, true, true, true, true, true, true, true, true, true, true, true, true, true, false, false, false, false, false, false, false] rfl rfl (by kernel_rfl) (fun _ _ _ h => h) (Or.inl ⟨by rfl, ?_⟩) ?_ ?_
  rotate_left
  · intro w'
    go_simp
    with_reducible rfl
  rotate_left
  · simp only [Act.put, List.setIfInBounds_toArray, List.set_cons_zero, List.set_cons_succ, i64_w, i32_w]
    rfl
  refine pure_ (i := 19) (N := some 110) (v := ?_) (a' := ?_) #[true, true, true, true, true, true, true, true, true, true, true, true, true, true, true, true, true, true, true, true, false, false, false, false, false, false] rfl rfl (by kernel_rfl) (fun _ _ _ h => h) (Or.inl ⟨by rfl, ?_⟩) ?_ ?_
  rotate_left
  · intro w'
    go_simp
    with_reducible rfl
  rotate_left
  · simp only [Act.put, List.setIfInBounds_toArray, List.set_cons_zero, List.set_cons_succ, i64_w, i32_w]
    rfl
  refine pure_ (i := 20) (N := some 111) (v := ?_) (a' := ?_) #[true, true, true, true, true, true, true, true, true, true, true, true, true, true, true, true, true, true, true, true, true, false, false, false, false, false] rfl rfl (by kernel_rfl) (fun _ _ _ h => h) (Or.inl ⟨by rfl, ?_⟩) ?_ ?_
  rotate_left
  · intro w'
    go_simp
    with_reducible rfl
  rotate_left
  · simp only [Act.put, List.setIfInBounds_toArray, List.set_cons_zero, List.set_cons_succ, i64_w, i32_w]
    rfl
  refine pure_ (i := 21) (N := some 112) (v := ?_) (a' := ?_) #[true, true, true, true, true, true, true, true, true, true, true, true, true, true, true, true, true, true, true, true, true, true, false, false, false, false] rfl rfl (by kernel_rfl) (fun _ _ _ h => h) (Or.inl ⟨by rfl, ?_⟩) ?_ ?_
  rotate_left
  · intro w'
    go_simp
    with_reducible rfl
  rotate_left
  · simp only [Act.put, List.setIfInBounds_toArray, List.set_cons_zero, List.set_cons_succ, i64_w, i32_w]
    rfl
  refine pure_ (i := 22) (N := some 113) (v := ?_) (a' := ?_) #[true, true, true, true, true, true, true, true, true, true, true, true, true, true, true, true, true, true, true, true, true, true, true, false, false, false] rfl rfl (by kernel_rfl) (fun _ _ _ h => h) (Or.inl ⟨by rfl, ?_⟩) ?_ ?_
  rotate_left
  · intro w'
    go_simp
    with_reducible rfl
  rotate_left
  · simp only [Act.put, List.setIfInBounds_toArray, List.set_cons_zero, List.set_cons_succ, i64_w, i32_w]
    rfl
  refine pure_ (i := 23) (N := some 114) (v := ?_) (a' := ?_) #[true, true, true, true, true, true, true, true, true, true, true, true, true, true, true, true, true, true, true, true, true, true, true, true, false, false] rfl rfl (by kernel_rfl) (fun _ _ _ h => h) (Or.inl ⟨by rfl, ?_⟩) ?_ ?_
  rotate_left
  · intro w'
    go_simp
    with_reducible rfl
  rotate_left
  · simp only [Act.put, List.setIfInBounds_toArray, List.set_cons_zero, List.set_cons_succ, i64_w, i32_w]
    rfl
  refine pure_ (i := 24) (N := some 115) (v := ?_) (a' := ?_) #[true, true, true, true, true, true, true, true, true, true, true, true, true, true, true, true, true, true, true, true, true, true, true, true, true, false] rfl rfl (by kernel_rfl) (fun _ _ _ h => h) (Or.inl ⟨by rfl, ?_⟩) ?_ ?_
  rotate_left
  · intro w'
    go_simp
    with_reducible rfl
  rotate_left
  · simp only [Act.put, List.setIfInBounds_toArray, List.set_cons_zero, List.set_cons_succ, i64_w, i32_w]
    rfl
  refine pure_ (i := 25) (N := some 28) (v := ?_) (a' := ?_) #[true, true, true, true, true, true, true, true, true, true, true, true, true, true, true, true, true, true, true, true, true, true, true, true, true, true] rfl rfl (by kernel_rfl) (fun _ _ _ h => h) (Or.inl ⟨by rfl, ?_⟩) ?_ ?_
  rotate_left
  · intro w'
    go_simp
    with_reducible rfl
  rotate_left
  · simp only [Act.put, List.setIfInBounds_toArray, List.set_cons_zero, List.set_cons_succ, i64_w, i32_w]
    rfl
  refine done_ (by kernel_rfl) ?_
  have cX0 : w8'.cell? ⟨w10.heap.size, 0, none⟩ = some (.int .i64 ps) := (blk_cell BX'.out 0).trans rfl
  have cX1 : w8'.cell? ⟨w10.heap.size, 1, none⟩ = some (.slice Ax pw.length cx) := (blk_cell BX'.out 1).trans rfl
  have cY0 : w8'.cell? ⟨w11.heap.size, 0, none⟩ = some (.int .i64 ps) := (blk_cell BY'.out 0).trans rfl
  have cY1 : w8'.cell? ⟨w11.heap.size, 1, none⟩ = some (.slice Ay pw.length cy) := (blk_cell BY'.out 1).trans rfl
  go_wp2_with (go_at_call 25; refine (customhouseref09_Same.calls k ps Ax cx pw ps Ay cy pw true _ Cx'.out hlx Cy'.out hly hSm).mono ?_; rintro e wz ⟨rfl, hbz⟩)
  go_ret
  exact ⟨rfl, below_step HB'.out hbz⟩
end Go.Proofs.YtgimbkfahfnplaaDoor.X6
