/- For functions of this seat: a plain Lean function each, and the proof that the call answers so; written by a program of this session out of the translation. No condition beyond those that stand in each theorem. -/
import Derived.Test.YtlegpojjbeglhaaPx0
import Derived.Test.YtlegpojjbeglhaaPx4
import Derived.Test.YtlegpojjbeglhaaPx7
import Derived.Test.YtlegpojjbeglhaaPx8
namespace Go.Proofs.Ytlegpojjbeglhaa.P
open Go.RowKit Go.Proofs.YtlegpojjbeglhaaW.PrintWords Go.Proofs.YtlegpojjbeglhaaW.PrintLast Go.Proofs.YtlegpojjbeglhaaW.PrintMore
attribute [local go_sem] max2_int min2_int max_two min_two max_three min_three max_four min_four   -- for this text's walks alone
set_option linter.unusedVariables false
set_option linter.unusedSimpArgs false

/-! ### messuagelaw08_HeadApart: function 4 -/
mutual
def messuagelaw08_HeadApart.l0 : Nat → List Int → Int → Int → Int → List (S32) → Int → Int → Int → Int → Int → Int → Int → Int → Int → Int → Int → Int → Int → Int → Option (Bool)
 | 0, _, _, _, _, _, _, _, _, _, _, _, _, _, _, _, _, _, _, _ => none
 | k + 1, x0, x5, x6, x271000, x271001, x271002, x271003, x271004, x271005, x271006, x271007, x271008, x271009, x271010, x271011, x271012, x271013, x271014, x271015 => if x6 < (x271001.length : Int) then (if 0 ≤ x6 then (if ((rd_T32 x271001 x6).f3) < x5 then (messuagelaw08_HeadApart.j1 k x0 x6 true x271000 x271001 x271002 x271003 x271004 x271005 x271006 x271007 x271008 x271009 x271010 x271011 x271012 x271013 x271014 x271015 ((rd_T32 x271001 x6).f0) ((rd_T32 x271001 x6).f1) ((rd_T32 x271001 x6).f2) ((rd_T32 x271001 x6).f3) ((rd_T32 x271001 x6).f4) ((rd_T32 x271001 x6).f5) ((rd_T32 x271001 x6).f6)) else (if (Int.tmod ((rd_T32 x271001 x6).f3) 256) = 0 then ((head_End.f ((rd_T32 x271001 x6).f0) ((rd_T32 x271001 x6).f1) ((rd_T32 x271001 x6).f2) ((rd_T32 x271001 x6).f3) ((rd_T32 x271001 x6).f4) ((rd_T32 x271001 x6).f5) ((rd_T32 x271001 x6).f6)).bind fun t277 => (if (Int.tmod t277 256) = 0 then ((head_End.f ((rd_T32 x271001 x6).f0) ((rd_T32 x271001 x6).f1) ((rd_T32 x271001 x6).f2) ((rd_T32 x271001 x6).f3) ((rd_T32 x271001 x6).f4) ((rd_T32 x271001 x6).f5) ((rd_T32 x271001 x6).f6)).bind fun t278 => (if (IntKind.u64.wrap (t278 - ((rd_T32 x271001 x6).f3))) < ((rd_T32 x271001 x6).f5) then (messuagelaw08_HeadApart.j1 k x0 x6 true x271000 x271001 x271002 x271003 x271004 x271005 x271006 x271007 x271008 x271009 x271010 x271011 x271012 x271013 x271014 x271015 ((rd_T32 x271001 x6).f0) ((rd_T32 x271001 x6).f1) ((rd_T32 x271001 x6).f2) ((rd_T32 x271001 x6).f3) ((rd_T32 x271001 x6).f4) ((rd_T32 x271001 x6).f5) ((rd_T32 x271001 x6).f6)) else ((head_End.f ((rd_T32 x271001 x6).f0) ((rd_T32 x271001 x6).f1) ((rd_T32 x271001 x6).f2) ((rd_T32 x271001 x6).f3) ((rd_T32 x271001 x6).f4) ((rd_T32 x271001 x6).f5) ((rd_T32 x271001 x6).f6)).bind fun t279 => (messuagelaw08_HeadApart.j1 k x0 x6 (decide ((IntKind.u64.wrap ((IntKind.u64.wrap (t279 - ((rd_T32 x271001 x6).f3))) - ((rd_T32 x271001 x6).f5))) ≥ 256)) x271000 x271001 x271002 x271003 x271004 x271005 x271006 x271007 x271008 x271009 x271010 x271011 x271012 x271013 x271014 x271015 ((rd_T32 x271001 x6).f0) ((rd_T32 x271001 x6).f1) ((rd_T32 x271001 x6).f2) ((rd_T32 x271001 x6).f3) ((rd_T32 x271001 x6).f4) ((rd_T32 x271001 x6).f5) ((rd_T32 x271001 x6).f6))))) else (messuagelaw08_HeadApart.j1 k x0 x6 true x271000 x271001 x271002 x271003 x271004 x271005 x271006 x271007 x271008 x271009 x271010 x271011 x271012 x271013 x271014 x271015 ((rd_T32 x271001 x6).f0) ((rd_T32 x271001 x6).f1) ((rd_T32 x271001 x6).f2) ((rd_T32 x271001 x6).f3) ((rd_T32 x271001 x6).f4) ((rd_T32 x271001 x6).f5) ((rd_T32 x271001 x6).f6)))) else (messuagelaw08_HeadApart.j1 k x0 x6 true x271000 x271001 x271002 x271003 x271004 x271005 x271006 x271007 x271008 x271009 x271010 x271011 x271012 x271013 x271014 x271015 ((rd_T32 x271001 x6).f0) ((rd_T32 x271001 x6).f1) ((rd_T32 x271001 x6).f2) ((rd_T32 x271001 x6).f3) ((rd_T32 x271001 x6).f4) ((rd_T32 x271001 x6).f5) ((rd_T32 x271001 x6).f6)))) else (none)) else (if (x271001.length : Int) > 0 then ((head_Span.f x271000 x271001 x271002 x271003 x271004 x271005 x271006 x271007 x271008 x271009 x271010 x271011 x271012 x271013 x271014 x271015).bind fun t272 => (if x5 = (IntKind.u64.wrap ((IntKind.u64.wrap (t272)) * 256)) then ((head_Span.f x271000 x271001 x271002 x271003 x271004 x271005 x271006 x271007 x271008 x271009 x271010 x271011 x271012 x271013 x271014 x271015).bind fun t273 => (if t273 ≤ 64 then ((messuagelaw08_alive.f k).bind fun t274 => (some t274)) else (some false))) else (some false))) else (some false))
def messuagelaw08_HeadApart.j1 : Nat → List Int → Int → Bool → Int → List (S32) → Int → Int → Int → Int → Int → Int → Int → Int → Int → Int → Int → Int → Int → Int → Int → Int → Int → Int → Int → Int → Int → Option (Bool)
 | 0, _, _, _, _, _, _, _, _, _, _, _, _, _, _, _, _, _, _, _, _, _, _, _, _, _, _ => none
 | k + 1, x0, x6, x73, x271000, x271001, x271002, x271003, x271004, x271005, x271006, x271007, x271008, x271009, x271010, x271011, x271012, x271013, x271014, x271015, x277000, x277001, x277002, x277003, x277004, x277005, x277006 => if x73 = true then (some false) else (if x277002 > (IntKind.u64.wrap ((x0.length : Int))) then (some false) else (if x277004 > (IntKind.u64.wrap ((IntKind.u64.wrap ((x0.length : Int))) - x277002)) then (some false) else (if x277004 > x277005 then (some false) else ((head_End.f x277000 x277001 x277002 x277003 x277004 x277005 x277006).bind fun t280 => (messuagelaw08_HeadApart.l0 k x0 t280 (wrap64 (x6 + 1)) x271000 x271001 x271002 x271003 x271004 x271005 x271006 x271007 x271008 x271009 x271010 x271011 x271012 x271013 x271014 x271015)))))
end
def messuagelaw08_HeadApart.f (k : Nat) (l0 : List Int) : Option (Bool) := if (l0.length : Int) > 262144 then (some true) else ((head_Parse.f k l0).bind fun bt251 => (if bt251.2.2.2.2.2.2.2.2.2.2.2.2.2.2.2.2 = 0 then (messuagelaw08_HeadApart.l0 k l0 0 0 bt251.1 bt251.2.1 bt251.2.2.1 bt251.2.2.2.1 bt251.2.2.2.2.1 bt251.2.2.2.2.2.1 bt251.2.2.2.2.2.2.1 bt251.2.2.2.2.2.2.2.1 bt251.2.2.2.2.2.2.2.2.1 bt251.2.2.2.2.2.2.2.2.2.1 bt251.2.2.2.2.2.2.2.2.2.2.1 bt251.2.2.2.2.2.2.2.2.2.2.2.1 bt251.2.2.2.2.2.2.2.2.2.2.2.2.1 bt251.2.2.2.2.2.2.2.2.2.2.2.2.2.1 bt251.2.2.2.2.2.2.2.2.2.2.2.2.2.2.1 bt251.2.2.2.2.2.2.2.2.2.2.2.2.2.2.2.1) else (if (bt251.2.1.length : Int) = 0 then ((messuagelaw08_alive.f k).bind fun t271 => (some t271)) else (some false))))
theorem messuagelaw08_HeadApart.mono_l : ∀ k, (∀ y0 y1 y2 y3 y4 y5 y6 y7 y8 y9 y10 y11 y12 y13 y14 y15 y16 y17 y18, LeO (messuagelaw08_HeadApart.l0 k y0 y1 y2 y3 y4 y5 y6 y7 y8 y9 y10 y11 y12 y13 y14 y15 y16 y17 y18) (messuagelaw08_HeadApart.l0 (k + 1) y0 y1 y2 y3 y4 y5 y6 y7 y8 y9 y10 y11 y12 y13 y14 y15 y16 y17 y18)) ∧ (∀ y0 y1 y2 y3 y4 y5 y6 y7 y8 y9 y10 y11 y12 y13 y14 y15 y16 y17 y18 y19 y20 y21 y22 y23 y24 y25, LeO (messuagelaw08_HeadApart.j1 k y0 y1 y2 y3 y4 y5 y6 y7 y8 y9 y10 y11 y12 y13 y14 y15 y16 y17 y18 y19 y20 y21 y22 y23 y24 y25) (messuagelaw08_HeadApart.j1 (k + 1) y0 y1 y2 y3 y4 y5 y6 y7 y8 y9 y10 y11 y12 y13 y14 y15 y16 y17 y18 y19 y20 y21 y22 y23 y24 y25))
 | 0 => ⟨fun _ _ _ _ _ _ _ _ _ _ _ _ _ _ _ _ _ _ _ r h => by simp [messuagelaw08_HeadApart.l0] at h, fun _ _ _ _ _ _ _ _ _ _ _ _ _ _ _ _ _ _ _ _ _ _ _ _ _ _ r h => by simp [messuagelaw08_HeadApart.j1] at h⟩
 | k + 1 => by
  obtain ⟨ih0, ih1⟩ := messuagelaw08_HeadApart.mono_l k
  refine ⟨?_, ?_⟩
  ·
   intro y0 y1 y2 y3 y4 y5 y6 y7 y8 y9 y10 y11 y12 y13 y14 y15 y16 y17 y18
   unfold messuagelaw08_HeadApart.l0
   repeat' first
   | (with_reducible exact ih0 _ _ _ _ _ _ _ _ _ _ _ _ _ _ _ _ _ _ _)
   | (with_reducible exact ih1 _ _ _ _ _ _ _ _ _ _ _ _ _ _ _ _ _ _ _ _ _ _ _ _ _ _)
   | (with_reducible exact head_Parse.mono _ _)
   | (with_reducible exact messuagelaw08_alive.mono _)
   | (with_reducible exact LeO.refl _)
   | (with_reducible exact LeO.none _)
   | (with_reducible refine LeO.ite ?_ ?_)
   | (with_reducible refine LeO.bind ?_ (fun _ => ?_))
   | exact ih0 _ _ _ _ _ _ _ _ _ _ _ _ _ _ _ _ _ _ _
   | exact ih1 _ _ _ _ _ _ _ _ _ _ _ _ _ _ _ _ _ _ _ _ _ _ _ _ _ _
   | exact head_Parse.mono _ _
   | exact messuagelaw08_alive.mono _
   | exact LeO.none _
   | refine LeO.ite ?_ ?_
   | refine LeO.bind ?_ (fun _ => ?_)
  ·
   intro y0 y1 y2 y3 y4 y5 y6 y7 y8 y9 y10 y11 y12 y13 y14 y15 y16 y17 y18 y19 y20 y21 y22 y23 y24 y25
   unfold messuagelaw08_HeadApart.j1
   repeat' first
   | (with_reducible exact ih0 _ _ _ _ _ _ _ _ _ _ _ _ _ _ _ _ _ _ _)
   | (with_reducible exact ih1 _ _ _ _ _ _ _ _ _ _ _ _ _ _ _ _ _ _ _ _ _ _ _ _ _ _)
   | (with_reducible exact head_Parse.mono _ _)
   | (with_reducible exact messuagelaw08_alive.mono _)
   | (with_reducible exact LeO.refl _)
   | (with_reducible exact LeO.none _)
   | (with_reducible refine LeO.ite ?_ ?_)
   | (with_reducible refine LeO.bind ?_ (fun _ => ?_))
   | exact ih0 _ _ _ _ _ _ _ _ _ _ _ _ _ _ _ _ _ _ _
   | exact ih1 _ _ _ _ _ _ _ _ _ _ _ _ _ _ _ _ _ _ _ _ _ _ _ _ _ _
   | exact head_Parse.mono _ _
   | exact messuagelaw08_alive.mono _
   | exact LeO.none _
   | refine LeO.ite ?_ ?_
   | refine LeO.bind ?_ (fun _ => ?_)
theorem messuagelaw08_HeadApart.mono : ∀ a0 k, LeO (messuagelaw08_HeadApart.f k a0) (messuagelaw08_HeadApart.f (k + 1) a0) := by
 intro a0 k
 obtain ⟨ih0, ih1⟩ := messuagelaw08_HeadApart.mono_l k
 unfold messuagelaw08_HeadApart.f
 repeat' first
   | (with_reducible exact ih0 _ _ _ _ _ _ _ _ _ _ _ _ _ _ _ _ _ _ _)
   | (with_reducible exact ih1 _ _ _ _ _ _ _ _ _ _ _ _ _ _ _ _ _ _ _ _ _ _ _ _ _ _)
   | (with_reducible exact head_Parse.mono _ _)
   | (with_reducible exact messuagelaw08_alive.mono _)
   | (with_reducible exact LeO.refl _)
   | (with_reducible exact LeO.none _)
   | (with_reducible refine LeO.ite ?_ ?_)
   | (with_reducible refine LeO.bind ?_ (fun _ => ?_))
   | exact ih0 _ _ _ _ _ _ _ _ _ _ _ _ _ _ _ _ _ _ _
   | exact ih1 _ _ _ _ _ _ _ _ _ _ _ _ _ _ _ _ _ _ _ _ _ _ _ _ _ _
   | exact head_Parse.mono _ _
   | exact messuagelaw08_alive.mono _
   | exact LeO.none _
   | refine LeO.ite ?_ ?_
   | refine LeO.bind ?_ (fun _ => ?_)
def messuagelaw08_HeadApart.T11 : Bool × List (List Nat × List Nat) := (true, [([], []), ([0], [0]), ([], []), ([1, 2], [1, 2]), ([3], [3]), ([4], [4]), ([5, 4], [4, 5]), ([6, 4], [4, 6]), ([7, 4], [4, 7]), ([4, 8], [4, 8]), ([9, 4], [9]), ([10], [10]), ([11, 10, 10], [10, 11]), ([12, 10], [10, 12]), ([13, 10], [10, 13]), ([10, 14], [10, 14]), ([15, 12], [15]), ([16], [16]), ([17, 16, 16], [16, 17]), ([16], [16]), ([19, 16], [16, 19]), ([18, 20, 16], [16, 18, 20]), ([16], [16]), ([22, 16], [16, 22]), ([21, 23, 16], [16, 21, 23]), ([16, 24], [16, 24]), ([25, 18], [25]), ([26], [26]), ([27, 26, 26], [26, 27]), ([26], [26]), ([29, 26], [26, 29]), ([28, 30, 26], [26, 28, 30]), ([26], [26]), ([32, 26], [26, 32]), ([31, 33, 26], [26, 31, 33]), ([34, 26], [26, 34]), ([26, 35], [26, 35])])
def messuagelaw08_HeadApart.B11 : List Nat := [0, 1, 0, 7, 15, 31, 63, 127, 255, 511, 1023, 2047, 4095, 8191, 16383, 32767, 65535, 131071, 262143, 131071, 655359, 2097151, 131071, 4325375, 16777215, 33554431, 67108863, 134217727, 268435455, 134217727, 671088639, 2147483647, 134217727, 4429185023, 17179869183, 34359738367, 68719476735]
theorem messuagelaw08_HeadApart.tab11 : rtab .any (opsOf Try.f4 11) = messuagelaw08_HeadApart.T11 := by kernel_rfl
theorem messuagelaw08_HeadApart.bits11 : waitsOk messuagelaw08_HeadApart.T11.2 messuagelaw08_HeadApart.B11 = true := by kernel_rfl
def messuagelaw08_HeadApart.Pure : Prop := ∀ (l0 : List Int), l0.length ≤ maxLen → l0.length * 1 ≤ 140737488351232 → (∀ x ∈ l0, (Lit.int .u8 x).wf = true) → ∃ k, messuagelaw08_HeadApart.f k l0 = some true

end Go.Proofs.Ytlegpojjbeglhaa.P
