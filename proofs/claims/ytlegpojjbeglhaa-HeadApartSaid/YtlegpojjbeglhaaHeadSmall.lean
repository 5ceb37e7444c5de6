/- messuagelaw08.small: what it hands back. No condition. -/
import Derived.Test.YtlegpojjbeglhaaBx3
namespace Go.Proofs.Ytlegpojjbeglhaa.HeadSmall
open Go.RowKit Go.Proofs Go.Proofs.Ytlegpojjbeglhaa.B Go.Proofs.YtlegpojjbeglhaaW.PrintWords Go.Proofs.YtlegpojjbeglhaaW.PrintLast Go.Proofs.YtlegpojjbeglhaaW.PrintMore

def s0 : List Int := [127, 69, 76, 70, 2, 1, 1]
def s1 : List Int := [127, 69, 76, 70, 2, 1, 1, 0, 0, 0, 0, 0, 0, 0, 0, 0]
def s2 : List Int := [127, 69, 76, 70, 2, 1, 1, 0, 0, 0, 0, 0, 0, 0, 0, 0, 3, 0]
def s3 : List Int := [127, 69, 76, 70, 2, 1, 1, 0, 0, 0, 0, 0, 0, 0, 0, 0, 3, 0, 62, 0]
def s4 : List Int := [127, 69, 76, 70, 2, 1, 1, 0, 0, 0, 0, 0, 0, 0, 0, 0, 3, 0, 62, 0, 0, 0, 0, 0, 0, 0, 0, 0, 0, 0, 0, 0]
def s5 : List Int := [127, 69, 76, 70, 2, 1, 1, 0, 0, 0, 0, 0, 0, 0, 0, 0, 3, 0, 62, 0, 0, 0, 0, 0, 0, 0, 0, 0, 0, 0, 0, 0, 64, 0, 0, 0, 0, 0, 0, 0]
def s6 : List Int := [127, 69, 76, 70, 2, 1, 1, 0, 0, 0, 0, 0, 0, 0, 0, 0, 3, 0, 62, 0, 0, 0, 0, 0, 0, 0, 0, 0, 0, 0, 0, 0, 64, 0, 0, 0, 0, 0, 0, 0, 0, 0, 0, 0, 0, 0, 0, 0, 0, 0, 0, 0]
def s7 : List Int := [127, 69, 76, 70, 2, 1, 1, 0, 0, 0, 0, 0, 0, 0, 0, 0, 3, 0, 62, 0, 0, 0, 0, 0, 0, 0, 0, 0, 0, 0, 0, 0, 64, 0, 0, 0, 0, 0, 0, 0, 0, 0, 0, 0, 0, 0, 0, 0, 0, 0, 0, 0, 64, 0]
def s8 : List Int := [127, 69, 76, 70, 2, 1, 1, 0, 0, 0, 0, 0, 0, 0, 0, 0, 3, 0, 62, 0, 0, 0, 0, 0, 0, 0, 0, 0, 0, 0, 0, 0, 64, 0, 0, 0, 0, 0, 0, 0, 0, 0, 0, 0, 0, 0, 0, 0, 0, 0, 0, 0, 64, 0, 56, 0]
def s9 : List Int := [127, 69, 76, 70, 2, 1, 1, 0, 0, 0, 0, 0, 0, 0, 0, 0, 3, 0, 62, 0, 0, 0, 0, 0, 0, 0, 0, 0, 0, 0, 0, 0, 64, 0, 0, 0, 0, 0, 0, 0, 0, 0, 0, 0, 0, 0, 0, 0, 0, 0, 0, 0, 64, 0, 56, 0, 2, 0]
def s10 : List Int := [127, 69, 76, 70, 2, 1, 1, 0, 0, 0, 0, 0, 0, 0, 0, 0, 3, 0, 62, 0, 0, 0, 0, 0, 0, 0, 0, 0, 0, 0, 0, 0, 64, 0, 0, 0, 0, 0, 0, 0, 0, 0, 0, 0, 0, 0, 0, 0, 0, 0, 0, 0, 64, 0, 56, 0, 2, 0, 0, 0, 0, 0, 0, 0]
def s11 : List Int := [127, 69, 76, 70, 2, 1, 1, 0, 0, 0, 0, 0, 0, 0, 0, 0, 3, 0, 62, 0, 0, 0, 0, 0, 0, 0, 0, 0, 0, 0, 0, 0, 64, 0, 0, 0, 0, 0, 0, 0, 0, 0, 0, 0, 0, 0, 0, 0, 0, 0, 0, 0, 64, 0, 56, 0, 2, 0, 0, 0, 0, 0, 0, 0, 1, 0, 0, 0]
def s12 : List Int := [127, 69, 76, 70, 2, 1, 1, 0, 0, 0, 0, 0, 0, 0, 0, 0, 3, 0, 62, 0, 0, 0, 0, 0, 0, 0, 0, 0, 0, 0, 0, 0, 64, 0, 0, 0, 0, 0, 0, 0, 0, 0, 0, 0, 0, 0, 0, 0, 0, 0, 0, 0, 64, 0, 56, 0, 2, 0, 0, 0, 0, 0, 0, 0, 1, 0, 0, 0, 4, 0, 0, 0]
def s13 : List Int := [127, 69, 76, 70, 2, 1, 1, 0, 0, 0, 0, 0, 0, 0, 0, 0, 3, 0, 62, 0, 0, 0, 0, 0, 0, 0, 0, 0, 0, 0, 0, 0, 64, 0, 0, 0, 0, 0, 0, 0, 0, 0, 0, 0, 0, 0, 0, 0, 0, 0, 0, 0, 64, 0, 56, 0, 2, 0, 0, 0, 0, 0, 0, 0, 1, 0, 0, 0, 4, 0, 0, 0, 0, 0, 0, 0, 0, 0, 0, 0]
def s14 : List Int := [127, 69, 76, 70, 2, 1, 1, 0, 0, 0, 0, 0, 0, 0, 0, 0, 3, 0, 62, 0, 0, 0, 0, 0, 0, 0, 0, 0, 0, 0, 0, 0, 64, 0, 0, 0, 0, 0, 0, 0, 0, 0, 0, 0, 0, 0, 0, 0, 0, 0, 0, 0, 64, 0, 56, 0, 2, 0, 0, 0, 0, 0, 0, 0, 1, 0, 0, 0, 4, 0, 0, 0, 0, 0, 0, 0, 0, 0, 0, 0, 0, 0, 0, 0, 0, 0, 0, 0]
def s15 : List Int := [127, 69, 76, 70, 2, 1, 1, 0, 0, 0, 0, 0, 0, 0, 0, 0, 3, 0, 62, 0, 0, 0, 0, 0, 0, 0, 0, 0, 0, 0, 0, 0, 64, 0, 0, 0, 0, 0, 0, 0, 0, 0, 0, 0, 0, 0, 0, 0, 0, 0, 0, 0, 64, 0, 56, 0, 2, 0, 0, 0, 0, 0, 0, 0, 1, 0, 0, 0, 4, 0, 0, 0, 0, 0, 0, 0, 0, 0, 0, 0, 0, 0, 0, 0, 0, 0, 0, 0, 0, 0, 0, 0, 0, 0, 0, 0]
def s16 : List Int := [127, 69, 76, 70, 2, 1, 1, 0, 0, 0, 0, 0, 0, 0, 0, 0, 3, 0, 62, 0, 0, 0, 0, 0, 0, 0, 0, 0, 0, 0, 0, 0, 64, 0, 0, 0, 0, 0, 0, 0, 0, 0, 0, 0, 0, 0, 0, 0, 0, 0, 0, 0, 64, 0, 56, 0, 2, 0, 0, 0, 0, 0, 0, 0, 1, 0, 0, 0, 4, 0, 0, 0, 0, 0, 0, 0, 0, 0, 0, 0, 0, 0, 0, 0, 0, 0, 0, 0, 0, 0, 0, 0, 0, 0, 0, 0, 0, 1, 0, 0, 0, 0, 0, 0]
def s17 : List Int := [127, 69, 76, 70, 2, 1, 1, 0, 0, 0, 0, 0, 0, 0, 0, 0, 3, 0, 62, 0, 0, 0, 0, 0, 0, 0, 0, 0, 0, 0, 0, 0, 64, 0, 0, 0, 0, 0, 0, 0, 0, 0, 0, 0, 0, 0, 0, 0, 0, 0, 0, 0, 64, 0, 56, 0, 2, 0, 0, 0, 0, 0, 0, 0, 1, 0, 0, 0, 4, 0, 0, 0, 0, 0, 0, 0, 0, 0, 0, 0, 0, 0, 0, 0, 0, 0, 0, 0, 0, 0, 0, 0, 0, 0, 0, 0, 0, 1, 0, 0, 0, 0, 0, 0, 0, 1, 0, 0, 0, 0, 0, 0]
def s18 : List Int := [127, 69, 76, 70, 2, 1, 1, 0, 0, 0, 0, 0, 0, 0, 0, 0, 3, 0, 62, 0, 0, 0, 0, 0, 0, 0, 0, 0, 0, 0, 0, 0, 64, 0, 0, 0, 0, 0, 0, 0, 0, 0, 0, 0, 0, 0, 0, 0, 0, 0, 0, 0, 64, 0, 56, 0, 2, 0, 0, 0, 0, 0, 0, 0, 1, 0, 0, 0, 4, 0, 0, 0, 0, 0, 0, 0, 0, 0, 0, 0, 0, 0, 0, 0, 0, 0, 0, 0, 0, 0, 0, 0, 0, 0, 0, 0, 0, 1, 0, 0, 0, 0, 0, 0, 0, 1, 0, 0, 0, 0, 0, 0, 8, 0, 0, 0, 0, 0, 0, 0]
def s19 : List Int := [127, 69, 76, 70, 2, 1, 1, 0, 0, 0, 0, 0, 0, 0, 0, 0, 3, 0, 62, 0, 0, 0, 0, 0, 0, 0, 0, 0, 0, 0, 0, 0, 64, 0, 0, 0, 0, 0, 0, 0, 0, 0, 0, 0, 0, 0, 0, 0, 0, 0, 0, 0, 64, 0, 56, 0, 2, 0, 0, 0, 0, 0, 0, 0, 1, 0, 0, 0, 4, 0, 0, 0, 0, 0, 0, 0, 0, 0, 0, 0, 0, 0, 0, 0, 0, 0, 0, 0, 0, 0, 0, 0, 0, 0, 0, 0, 0, 1, 0, 0, 0, 0, 0, 0, 0, 1, 0, 0, 0, 0, 0, 0, 8, 0, 0, 0, 0, 0, 0, 0, 2, 0, 0, 0]
def s20 : List Int := [127, 69, 76, 70, 2, 1, 1, 0, 0, 0, 0, 0, 0, 0, 0, 0, 3, 0, 62, 0, 0, 0, 0, 0, 0, 0, 0, 0, 0, 0, 0, 0, 64, 0, 0, 0, 0, 0, 0, 0, 0, 0, 0, 0, 0, 0, 0, 0, 0, 0, 0, 0, 64, 0, 56, 0, 2, 0, 0, 0, 0, 0, 0, 0, 1, 0, 0, 0, 4, 0, 0, 0, 0, 0, 0, 0, 0, 0, 0, 0, 0, 0, 0, 0, 0, 0, 0, 0, 0, 0, 0, 0, 0, 0, 0, 0, 0, 1, 0, 0, 0, 0, 0, 0, 0, 1, 0, 0, 0, 0, 0, 0, 8, 0, 0, 0, 0, 0, 0, 0, 2, 0, 0, 0, 4, 0, 0, 0]
def s21 : List Int := [127, 69, 76, 70, 2, 1, 1, 0, 0, 0, 0, 0, 0, 0, 0, 0, 3, 0, 62, 0, 0, 0, 0, 0, 0, 0, 0, 0, 0, 0, 0, 0, 64, 0, 0, 0, 0, 0, 0, 0, 0, 0, 0, 0, 0, 0, 0, 0, 0, 0, 0, 0, 64, 0, 56, 0, 2, 0, 0, 0, 0, 0, 0, 0, 1, 0, 0, 0, 4, 0, 0, 0, 0, 0, 0, 0, 0, 0, 0, 0, 0, 0, 0, 0, 0, 0, 0, 0, 0, 0, 0, 0, 0, 0, 0, 0, 0, 1, 0, 0, 0, 0, 0, 0, 0, 1, 0, 0, 0, 0, 0, 0, 8, 0, 0, 0, 0, 0, 0, 0, 2, 0, 0, 0, 4, 0, 0, 0, 192, 0, 0, 0, 0, 0, 0, 0]
def s22 : List Int := [127, 69, 76, 70, 2, 1, 1, 0, 0, 0, 0, 0, 0, 0, 0, 0, 3, 0, 62, 0, 0, 0, 0, 0, 0, 0, 0, 0, 0, 0, 0, 0, 64, 0, 0, 0, 0, 0, 0, 0, 0, 0, 0, 0, 0, 0, 0, 0, 0, 0, 0, 0, 64, 0, 56, 0, 2, 0, 0, 0, 0, 0, 0, 0, 1, 0, 0, 0, 4, 0, 0, 0, 0, 0, 0, 0, 0, 0, 0, 0, 0, 0, 0, 0, 0, 0, 0, 0, 0, 0, 0, 0, 0, 0, 0, 0, 0, 1, 0, 0, 0, 0, 0, 0, 0, 1, 0, 0, 0, 0, 0, 0, 8, 0, 0, 0, 0, 0, 0, 0, 2, 0, 0, 0, 4, 0, 0, 0, 192, 0, 0, 0, 0, 0, 0, 0, 192, 0, 0, 0, 0, 0, 0, 0]
def s23 : List Int := [127, 69, 76, 70, 2, 1, 1, 0, 0, 0, 0, 0, 0, 0, 0, 0, 3, 0, 62, 0, 0, 0, 0, 0, 0, 0, 0, 0, 0, 0, 0, 0, 64, 0, 0, 0, 0, 0, 0, 0, 0, 0, 0, 0, 0, 0, 0, 0, 0, 0, 0, 0, 64, 0, 56, 0, 2, 0, 0, 0, 0, 0, 0, 0, 1, 0, 0, 0, 4, 0, 0, 0, 0, 0, 0, 0, 0, 0, 0, 0, 0, 0, 0, 0, 0, 0, 0, 0, 0, 0, 0, 0, 0, 0, 0, 0, 0, 1, 0, 0, 0, 0, 0, 0, 0, 1, 0, 0, 0, 0, 0, 0, 8, 0, 0, 0, 0, 0, 0, 0, 2, 0, 0, 0, 4, 0, 0, 0, 192, 0, 0, 0, 0, 0, 0, 0, 192, 0, 0, 0, 0, 0, 0, 0, 0, 0, 0, 0, 0, 0, 0, 0]
def s24 : List Int := [127, 69, 76, 70, 2, 1, 1, 0, 0, 0, 0, 0, 0, 0, 0, 0, 3, 0, 62, 0, 0, 0, 0, 0, 0, 0, 0, 0, 0, 0, 0, 0, 64, 0, 0, 0, 0, 0, 0, 0, 0, 0, 0, 0, 0, 0, 0, 0, 0, 0, 0, 0, 64, 0, 56, 0, 2, 0, 0, 0, 0, 0, 0, 0, 1, 0, 0, 0, 4, 0, 0, 0, 0, 0, 0, 0, 0, 0, 0, 0, 0, 0, 0, 0, 0, 0, 0, 0, 0, 0, 0, 0, 0, 0, 0, 0, 0, 1, 0, 0, 0, 0, 0, 0, 0, 1, 0, 0, 0, 0, 0, 0, 8, 0, 0, 0, 0, 0, 0, 0, 2, 0, 0, 0, 4, 0, 0, 0, 192, 0, 0, 0, 0, 0, 0, 0, 192, 0, 0, 0, 0, 0, 0, 0, 0, 0, 0, 0, 0, 0, 0, 0, 16, 0, 0, 0, 0, 0, 0, 0]
def s25 : List Int := [127, 69, 76, 70, 2, 1, 1, 0, 0, 0, 0, 0, 0, 0, 0, 0, 3, 0, 62, 0, 0, 0, 0, 0, 0, 0, 0, 0, 0, 0, 0, 0, 64, 0, 0, 0, 0, 0, 0, 0, 0, 0, 0, 0, 0, 0, 0, 0, 0, 0, 0, 0, 64, 0, 56, 0, 2, 0, 0, 0, 0, 0, 0, 0, 1, 0, 0, 0, 4, 0, 0, 0, 0, 0, 0, 0, 0, 0, 0, 0, 0, 0, 0, 0, 0, 0, 0, 0, 0, 0, 0, 0, 0, 0, 0, 0, 0, 1, 0, 0, 0, 0, 0, 0, 0, 1, 0, 0, 0, 0, 0, 0, 8, 0, 0, 0, 0, 0, 0, 0, 2, 0, 0, 0, 4, 0, 0, 0, 192, 0, 0, 0, 0, 0, 0, 0, 192, 0, 0, 0, 0, 0, 0, 0, 0, 0, 0, 0, 0, 0, 0, 0, 16, 0, 0, 0, 0, 0, 0, 0, 16, 0, 0, 0, 0, 0, 0, 0]
def s26 : List Int := [127, 69, 76, 70, 2, 1, 1, 0, 0, 0, 0, 0, 0, 0, 0, 0, 3, 0, 62, 0, 0, 0, 0, 0, 0, 0, 0, 0, 0, 0, 0, 0, 64, 0, 0, 0, 0, 0, 0, 0, 0, 0, 0, 0, 0, 0, 0, 0, 0, 0, 0, 0, 64, 0, 56, 0, 2, 0, 0, 0, 0, 0, 0, 0, 1, 0, 0, 0, 4, 0, 0, 0, 0, 0, 0, 0, 0, 0, 0, 0, 0, 0, 0, 0, 0, 0, 0, 0, 0, 0, 0, 0, 0, 0, 0, 0, 0, 1, 0, 0, 0, 0, 0, 0, 0, 1, 0, 0, 0, 0, 0, 0, 8, 0, 0, 0, 0, 0, 0, 0, 2, 0, 0, 0, 4, 0, 0, 0, 192, 0, 0, 0, 0, 0, 0, 0, 192, 0, 0, 0, 0, 0, 0, 0, 0, 0, 0, 0, 0, 0, 0, 0, 16, 0, 0, 0, 0, 0, 0, 0, 16, 0, 0, 0, 0, 0, 0, 0, 8, 0, 0, 0, 0, 0, 0, 0]
/-- The bytes of the example. -/
def smallL : List Int := [127, 69, 76, 70, 2, 1, 1, 0, 0, 0, 0, 0, 0, 0, 0, 0, 3, 0, 62, 0, 0, 0, 0, 0, 0, 0, 0, 0, 0, 0, 0, 0, 64, 0, 0, 0, 0, 0, 0, 0, 0, 0, 0, 0, 0, 0, 0, 0, 0, 0, 0, 0, 64, 0, 56, 0, 2, 0, 0, 0, 0, 0, 0, 0, 1, 0, 0, 0, 4, 0, 0, 0, 0, 0, 0, 0, 0, 0, 0, 0, 0, 0, 0, 0, 0, 0, 0, 0, 0, 0, 0, 0, 0, 0, 0, 0, 0, 1, 0, 0, 0, 0, 0, 0, 0, 1, 0, 0, 0, 0, 0, 0, 8, 0, 0, 0, 0, 0, 0, 0, 2, 0, 0, 0, 4, 0, 0, 0, 192, 0, 0, 0, 0, 0, 0, 0, 192, 0, 0, 0, 0, 0, 0, 0, 0, 0, 0, 0, 0, 0, 0, 0, 16, 0, 0, 0, 0, 0, 0, 0, 16, 0, 0, 0, 0, 0, 0, 0, 8, 0, 0, 0, 0, 0, 0, 0, 0, 0, 0, 0, 0, 0, 0, 0, 0, 0, 0, 0, 0, 0, 0, 0, 0, 0, 0, 0, 0, 0, 0, 0, 0, 0, 0, 0, 0, 0, 0, 0, 0, 0, 0, 0, 0, 0, 0, 0, 0, 0, 0, 0, 0, 0, 0, 0, 0, 0, 0, 0, 0, 0, 0, 0, 0, 0, 0, 0, 0, 0, 0, 0, 0, 0, 0, 0, 0, 0, 0, 0, 0, 0, 0, 0, 0, 0, 0, 0]
theorem e0 : messuageref02_Zeros.f 40 s0 9 = some s1 := by decide +kernel
theorem e1 : messuageref02_Put.f 40 s1 3 2 = some s2 := by decide +kernel
theorem e2 : messuageref02_Put.f 40 s2 62 2 = some s3 := by decide +kernel
theorem e3 : messuageref02_Zeros.f 40 s3 12 = some s4 := by decide +kernel
theorem e4 : messuageref02_Put.f 40 s4 64 8 = some s5 := by decide +kernel
theorem e5 : messuageref02_Zeros.f 40 s5 12 = some s6 := by decide +kernel
theorem e6 : messuageref02_Put.f 40 s6 64 2 = some s7 := by decide +kernel
theorem e7 : messuageref02_Put.f 40 s7 56 2 = some s8 := by decide +kernel
theorem e8 : messuageref02_Put.f 40 s8 2 2 = some s9 := by decide +kernel
theorem e9 : messuageref02_Zeros.f 40 s9 6 = some s10 := by decide +kernel
theorem e10 : messuageref02_Put.f 40 s10 1 4 = some s11 := by decide +kernel
theorem e11 : messuageref02_Put.f 40 s11 4 4 = some s12 := by decide +kernel
theorem e12 : messuageref02_Put.f 40 s12 0 8 = some s13 := by decide +kernel
theorem e13 : messuageref02_Put.f 40 s13 0 8 = some s14 := by decide +kernel
theorem e14 : messuageref02_Put.f 40 s14 0 8 = some s15 := by decide +kernel
theorem e15 : messuageref02_Put.f 40 s15 256 8 = some s16 := by decide +kernel
theorem e16 : messuageref02_Put.f 40 s16 256 8 = some s17 := by decide +kernel
theorem e17 : messuageref02_Put.f 40 s17 8 8 = some s18 := by decide +kernel
theorem e18 : messuageref02_Put.f 40 s18 2 4 = some s19 := by decide +kernel
theorem e19 : messuageref02_Put.f 40 s19 4 4 = some s20 := by decide +kernel
theorem e20 : messuageref02_Put.f 40 s20 192 8 = some s21 := by decide +kernel
theorem e21 : messuageref02_Put.f 40 s21 192 8 = some s22 := by decide +kernel
theorem e22 : messuageref02_Put.f 40 s22 0 8 = some s23 := by decide +kernel
theorem e23 : messuageref02_Put.f 40 s23 16 8 = some s24 := by decide +kernel
theorem e24 : messuageref02_Put.f 40 s24 16 8 = some s25 := by decide +kernel
theorem e25 : messuageref02_Put.f 40 s25 8 8 = some s26 := by decide +kernel
theorem eTo : messuageref02_To.f 400 s26 256 = some smallL := by decide +kernel
/-- Ahead of the rows. -/
structure S1 (w0 W : World) (u : Value) (l : List Int) : Prop where
  below : Below w0.heap.size w0 W
  row : Kd.R (Kd.int .u8) 5 W w0.heap.size (fun _ => True) u l
/-- Behind them: rows of numbers at blocks g and g + 1, the row of them at g + 2. -/
structure S2 (w0 : World) (g : Nat) (W : World) (u : Value) (l : List Int) : Prop where
  below : Below w0.heap.size w0 W
  row : ∃ P : Nat → Prop, Kd.R (Kd.int .u8) 5 W w0.heap.size P u l ∧ ¬ P g ∧ ¬ P (g + 1) ∧ ¬ P (g + 2)
  b0 : W.heap[g]? = some (.cells #[.int .u64 1, .int .u64 4, .int .u64 0, .int .u64 0, .int .u64 256] 30 (0, 0))
  b1 : W.heap[g + 1]? = some (.cells #[.int .u64 2, .int .u64 4, .int .u64 192, .int .u64 192, .int .u64 16] 30 (0, 0))
  b2 : W.heap[g + 2]? = some (.cells #[.slice (some ⟨g, 0, none⟩) 5 5, .slice (some ⟨g + 1, 0, none⟩) 5 5] 153 (0, 0))
theorem put1 {w0 W : World} {u : Value} {l r : List Int} {n k : Int} (h : S1 w0 W u l) (e : messuageref02_Put.f 40 l n k = some r) :
    Calls Try.prog 66 #[u, .int .u64 n, .int .i64 k] W fun e W' => ∃ v, e = .returned v ∧ S1 w0 W' v r :=
  (messuageref02_Put.calls 40 (fun _ => True) u l n k r w0 W h.below h.row e).mono fun _ _ ⟨v, he, hr, hb, _⟩ => ⟨v, he, hb, Kd.R_mono hr fun _ _ => trivial⟩
theorem zeros1 {w0 W : World} {u : Value} {l r : List Int} {n : Int} (h : S1 w0 W u l) (e : messuageref02_Zeros.f 40 l n = some r) :
    Calls Try.prog 65 #[u, .int .i64 n] W fun e W' => ∃ v, e = .returned v ∧ S1 w0 W' v r :=
  (messuageref02_Zeros.calls 40 (fun _ => True) u l n r w0 W h.below h.row e).mono fun _ _ ⟨v, he, hr, hb, _⟩ => ⟨v, he, hb, Kd.R_mono hr fun _ _ => trivial⟩
theorem put2 {w0 W : World} {g : Nat} {u : Value} {l r : List Int} {n k : Int} (h : S2 w0 g W u l) (e : messuageref02_Put.f 40 l n k = some r) :
    Calls Try.prog 66 #[u, .int .u64 n, .int .i64 k] W fun e W' => ∃ v, e = .returned v ∧ S2 w0 g W' v r := by
  obtain ⟨P, hr0, p0, p1, p2⟩ := h.row
  have l2 := blk_lt h.b2
  refine (messuageref02_Put.calls 40 P u l n k r w0 W h.below hr0 e).mono ?_
  rintro _ W' ⟨v, he, hr, hb, hk⟩
  refine ⟨v, he, hb, ⟨_, hr, ?_, ?_, ?_⟩, blk_kept h.b0 hk p0, blk_kept h.b1 hk p1, blk_kept h.b2 hk p2⟩
  · rintro (h | h)
    · exact p0 h
    · omega
  · rintro (h | h)
    · exact p1 h
    · omega
  · rintro (h | h)
    · exact p2 h
    · omega
theorem to2 {w0 W : World} {g : Nat} {u : Value} {l r : List Int} {k : Int} (h : S2 w0 g W u l) (e : messuageref02_To.f 400 l k = some r) :
    Calls Try.prog 67 #[u, .int .i64 k] W fun e W' => ∃ v, e = .returned v ∧ Kd.R (Kd.int .u8) 5 W' w0.heap.size (fun _ => True) v r ∧ Below w0.heap.size w0 W' := by
  obtain ⟨P, hr0, p0, p1, p2⟩ := h.row
  exact (messuageref02_To.calls 400 P u l k r w0 W h.below hr0 e).mono fun _ _ ⟨v, he, hr, hb, _⟩ => ⟨v, he, Kd.R_mono hr fun _ _ => trivial, hb⟩
theorem S2.of {w0 W : World} {u : Value} {l : List Int} (h : S1 w0 W u l) :
    S2 w0 W.heap.size (((W.alloc (.cells #[.int .u64 1, .int .u64 4, .int .u64 0, .int .u64 0, .int .u64 256] 30)).alloc (.cells #[.int .u64 2, .int .u64 4, .int .u64 192, .int .u64 192, .int .u64 16] 30)).alloc (.cells #[.slice (some ⟨W.heap.size, 0, none⟩) 5 5, .slice (some ⟨W.heap.size + 1, 0, none⟩) 5 5] 153)) u l := by
  have n0 := blk_new W (.cells #[.int .u64 1, .int .u64 4, .int .u64 0, .int .u64 0, .int .u64 256] 30)
  have n1 := blk_new (W.alloc (.cells #[.int .u64 1, .int .u64 4, .int .u64 0, .int .u64 0, .int .u64 256] 30)) (.cells #[.int .u64 2, .int .u64 4, .int .u64 192, .int .u64 192, .int .u64 16] 30)
  have n2 := blk_new ((W.alloc (.cells #[.int .u64 1, .int .u64 4, .int .u64 0, .int .u64 0, .int .u64 256] 30)).alloc (.cells #[.int .u64 2, .int .u64 4, .int .u64 192, .int .u64 192, .int .u64 16] 30)) (.cells #[.slice (some ⟨W.heap.size, 0, none⟩) 5 5, .slice (some ⟨W.heap.size + 1, 0, none⟩) 5 5] 153)
  rw [World.size_alloc] at n1
  rw [World.size_alloc, World.size_alloc] at n2
  refine ⟨below_alloc (below_alloc (below_alloc h.below _) _) _, ⟨fun k => k < W.heap.size, ?_, by omega, by omega, by omega⟩, blk_alloc (blk_alloc n0 _) _, blk_alloc n1 _, n2⟩
  have hr := Kd.R_mono (ok' := fun k => k < W.heap.size) (Kd.R_bound h.row) fun k hk => hk.2.2.1
  exact Kd.R_alloc (Kd.R_alloc (Kd.R_alloc hr _) _) _
theorem S2.cell {w0 : World} {g : Nat} {W : World} {u : Value} {l : List Int} (h : S2 w0 g W u l) :
    W.cell? ⟨g, 0, none⟩ = some (.int .u64 1) ∧ W.cell? ⟨g, 1, none⟩ = some (.int .u64 4) ∧ W.cell? ⟨g, 2, none⟩ = some (.int .u64 0) ∧ W.cell? ⟨g, 3, none⟩ = some (.int .u64 0) ∧ W.cell? ⟨g, 4, none⟩ = some (.int .u64 256) ∧
    W.cell? ⟨g + 1, 0, none⟩ = some (.int .u64 2) ∧ W.cell? ⟨g + 1, 1, none⟩ = some (.int .u64 4) ∧ W.cell? ⟨g + 1, 2, none⟩ = some (.int .u64 192) ∧ W.cell? ⟨g + 1, 3, none⟩ = some (.int .u64 192) ∧ W.cell? ⟨g + 1, 4, none⟩ = some (.int .u64 16) ∧
    W.cell? ⟨g + 1 + 1, 0, none⟩ = some (.slice (some ⟨g, 0, none⟩) 5 5) ∧ W.cell? ⟨g + 1 + 1, 1, none⟩ = some (.slice (some ⟨g + 1, 0, none⟩) 5 5) :=
  ⟨blk_cell h.b0 0, blk_cell h.b0 1, blk_cell h.b0 2, blk_cell h.b0 3, blk_cell h.b0 4, blk_cell h.b1 0, blk_cell h.b1 1, blk_cell h.b1 2, blk_cell h.b1 3, blk_cell h.b1 4, blk_cell h.b2 0, blk_cell h.b2 1⟩
set_option maxRecDepth 100000 in
set_option maxHeartbeats 4000000 in
theorem small_in (w : World) : Calls Try.prog 42 #[] w fun e w' => ∃ v0_ : Value, e = .returned v0_ ∧ Kd.R (Kd.int .u8) 5 w' w.heap.size (fun _ => True) v0_ smallL ∧ Below w.heap.size w w' := by
  have Z0 : Aside0 (S1 w (w.alloc (.cells #[.int .u8 127, .int .u8 69, .int .u8 76, .int .u8 70, .int .u8 2, .int .u8 1, .int .u8 1] 5)) (.slice (some ⟨w.heap.size, 0, none⟩) 7 7) s0) :=
    ⟨below_alloc (Below.refl _ _) _, Kd.R_of_own (enc := Value.int .u8) (h1 := fun _ => rfl) (own_lit w w.heap.size 5 .u8 s0 (Nat.le_refl _) (by decide)) (fun _ _ => trivial)⟩
  go_enter Try.func42, Try.ntmps42
  go_wp2_with fail
  (go_at_call 65; (with_reducible refine (zeros1 (l := s0) (r := s1) Z0.out e0).mono ?_); rintro e W1 ⟨u1, rfl, hz⟩; have Z1 := Aside0.mk hz; clear hz)
  go_wp2_with fail
  (go_at_call 66; (with_reducible refine (put1 (l := s1) (r := s2) Z1.out e1).mono ?_); rintro e W2 ⟨u2, rfl, hz⟩; have Z2 := Aside0.mk hz; clear hz)
  go_wp2_with fail
  (go_at_call 66; (with_reducible refine (put1 (l := s2) (r := s3) Z2.out e2).mono ?_); rintro e W3 ⟨u3, rfl, hz⟩; have Z3 := Aside0.mk hz; clear hz)
  go_wp2_with fail
  (go_at_call 65; (with_reducible refine (zeros1 (l := s3) (r := s4) Z3.out e3).mono ?_); rintro e W4 ⟨u4, rfl, hz⟩; have Z4 := Aside0.mk hz; clear hz)
  go_wp2_with fail
  (go_at_call 66; (with_reducible refine (put1 (l := s4) (r := s5) Z4.out e4).mono ?_); rintro e W5 ⟨u5, rfl, hz⟩; have Z5 := Aside0.mk hz; clear hz)
  go_wp2_with fail
  (go_at_call 65; (with_reducible refine (zeros1 (l := s5) (r := s6) Z5.out e5).mono ?_); rintro e W6 ⟨u6, rfl, hz⟩; have Z6 := Aside0.mk hz; clear hz)
  go_wp2_with fail
  (go_at_call 66; (with_reducible refine (put1 (l := s6) (r := s7) Z6.out e6).mono ?_); rintro e W7 ⟨u7, rfl, hz⟩; have Z7 := Aside0.mk hz; clear hz)
  go_wp2_with fail
  (go_at_call 66; (with_reducible refine (put1 (l := s7) (r := s8) Z7.out e7).mono ?_); rintro e W8 ⟨u8, rfl, hz⟩; have Z8 := Aside0.mk hz; clear hz)
  go_wp2_with fail
  (go_at_call 66; (with_reducible refine (put1 (l := s8) (r := s9) Z8.out e8).mono ?_); rintro e W9 ⟨u9, rfl, hz⟩; have Z9 := Aside0.mk hz; clear hz)
  go_wp2_with fail
  (go_at_call 65; (with_reducible refine (zeros1 (l := s9) (r := s10) Z9.out e9).mono ?_); rintro e W10 ⟨u10, rfl, hz⟩; have Z10 := Aside0.mk hz; clear hz)
  go_wp2
  have Y10 := Aside0.mk (S2.of Z10.out)
  obtain ⟨c0, c1, c2, c3, c4, d0, d1, d2, d3, d4, f0, f1⟩ := Y10.out.cell
  refine wp_loop_rounds 3 ?_
  rw [rounds_succ]
  go_wp2_with fail
  (go_at_call 66; (with_reducible refine (put2 (l := s10) (r := s11) Y10.out e10).mono ?_); rintro e W11 ⟨u11, rfl, hz⟩; have Z11 := Aside0.mk hz; clear hz; clear c0 c1 c2 c3 c4 d0 d1 d2 d3 d4 f0 f1; obtain ⟨c0, c1, c2, c3, c4, d0, d1, d2, d3, d4, f0, f1⟩ := Z11.out.cell)
  go_wp2_with fail
  (go_at_call 66; (with_reducible refine (put2 (l := s11) (r := s12) Z11.out e11).mono ?_); rintro e W12 ⟨u12, rfl, hz⟩; have Z12 := Aside0.mk hz; clear hz; clear c0 c1 c2 c3 c4 d0 d1 d2 d3 d4 f0 f1; obtain ⟨c0, c1, c2, c3, c4, d0, d1, d2, d3, d4, f0, f1⟩ := Z12.out.cell)
  go_wp2_with fail
  (go_at_call 66; (with_reducible refine (put2 (l := s12) (r := s13) Z12.out e12).mono ?_); rintro e W13 ⟨u13, rfl, hz⟩; have Z13 := Aside0.mk hz; clear hz; clear c0 c1 c2 c3 c4 d0 d1 d2 d3 d4 f0 f1; obtain ⟨c0, c1, c2, c3, c4, d0, d1, d2, d3, d4, f0, f1⟩ := Z13.out.cell)
  go_wp2_with fail
  (go_at_call 66; (with_reducible refine (put2 (l := s13) (r := s14) Z13.out e13).mono ?_); rintro e W14 ⟨u14, rfl, hz⟩; have Z14 := Aside0.mk hz; clear hz; clear c0 c1 c2 c3 c4 d0 d1 d2 d3 d4 f0 f1; obtain ⟨c0, c1, c2, c3, c4, d0, d1, d2, d3, d4, f0, f1⟩ := Z14.out.cell)
  go_wp2_with fail
  (go_at_call 66; (with_reducible refine (put2 (l := s14) (r := s15) Z14.out e14).mono ?_); rintro e W15 ⟨u15, rfl, hz⟩; have Z15 := Aside0.mk hz; clear hz; clear c0 c1 c2 c3 c4 d0 d1 d2 d3 d4 f0 f1; obtain ⟨c0, c1, c2, c3, c4, d0, d1, d2, d3, d4, f0, f1⟩ := Z15.out.cell)
  go_wp2_with fail
  (go_at_call 66; (with_reducible refine (put2 (l := s15) (r := s16) Z15.out e15).mono ?_); rintro e W16 ⟨u16, rfl, hz⟩; have Z16 := Aside0.mk hz; clear hz; clear c0 c1 c2 c3 c4 d0 d1 d2 d3 d4 f0 f1; obtain ⟨c0, c1, c2, c3, c4, d0, d1, d2, d3, d4, f0, f1⟩ := Z16.out.cell)
  go_wp2_with fail
  (go_at_call 66; (with_reducible refine (put2 (l := s16) (r := s17) Z16.out e16).mono ?_); rintro e W17 ⟨u17, rfl, hz⟩; have Z17 := Aside0.mk hz; clear hz; clear c0 c1 c2 c3 c4 d0 d1 d2 d3 d4 f0 f1; obtain ⟨c0, c1, c2, c3, c4, d0, d1, d2, d3, d4, f0, f1⟩ := Z17.out.cell)
  go_wp2_with fail
  (go_at_call 66; (with_reducible refine (put2 (l := s17) (r := s18) Z17.out e17).mono ?_); rintro e W18 ⟨u18, rfl, hz⟩; have Z18 := Aside0.mk hz; clear hz; clear c0 c1 c2 c3 c4 d0 d1 d2 d3 d4 f0 f1; obtain ⟨c0, c1, c2, c3, c4, d0, d1, d2, d3, d4, f0, f1⟩ := Z18.out.cell)
  go_wp2
  rw [rounds_succ]
  go_wp2_with fail
  (go_at_call 66; (with_reducible refine (put2 (l := s18) (r := s19) Z18.out e18).mono ?_); rintro e W19 ⟨u19, rfl, hz⟩; have Z19 := Aside0.mk hz; clear hz; clear c0 c1 c2 c3 c4 d0 d1 d2 d3 d4 f0 f1; obtain ⟨c0, c1, c2, c3, c4, d0, d1, d2, d3, d4, f0, f1⟩ := Z19.out.cell)
  go_wp2_with fail
  (go_at_call 66; (with_reducible refine (put2 (l := s19) (r := s20) Z19.out e19).mono ?_); rintro e W20 ⟨u20, rfl, hz⟩; have Z20 := Aside0.mk hz; clear hz; clear c0 c1 c2 c3 c4 d0 d1 d2 d3 d4 f0 f1; obtain ⟨c0, c1, c2, c3, c4, d0, d1, d2, d3, d4, f0, f1⟩ := Z20.out.cell)
  go_wp2_with fail
  (go_at_call 66; (with_reducible refine (put2 (l := s20) (r := s21) Z20.out e20).mono ?_); rintro e W21 ⟨u21, rfl, hz⟩; have Z21 := Aside0.mk hz; clear hz; clear c0 c1 c2 c3 c4 d0 d1 d2 d3 d4 f0 f1; obtain ⟨c0, c1, c2, c3, c4, d0, d1, d2, d3, d4, f0, f1⟩ := Z21.out.cell)
  go_wp2_with fail
  (go_at_call 66; (with_reducible refine (put2 (l := s21) (r := s22) Z21.out e21).mono ?_); rintro e W22 ⟨u22, rfl, hz⟩; have Z22 := Aside0.mk hz; clear hz; clear c0 c1 c2 c3 c4 d0 d1 d2 d3 d4 f0 f1; obtain ⟨c0, c1, c2, c3, c4, d0, d1, d2, d3, d4, f0, f1⟩ := Z22.out.cell)
  go_wp2_with fail
  (go_at_call 66; (with_reducible refine (put2 (l := s22) (r := s23) Z22.out e22).mono ?_); rintro e W23 ⟨u23, rfl, hz⟩; have Z23 := Aside0.mk hz; clear hz; clear c0 c1 c2 c3 c4 d0 d1 d2 d3 d4 f0 f1; obtain ⟨c0, c1, c2, c3, c4, d0, d1, d2, d3, d4, f0, f1⟩ := Z23.out.cell)
  go_wp2_with fail
  (go_at_call 66; (with_reducible refine (put2 (l := s23) (r := s24) Z23.out e23).mono ?_); rintro e W24 ⟨u24, rfl, hz⟩; have Z24 := Aside0.mk hz; clear hz; clear c0 c1 c2 c3 c4 d0 d1 d2 d3 d4 f0 f1; obtain ⟨c0, c1, c2, c3, c4, d0, d1, d2, d3, d4, f0, f1⟩ := Z24.out.cell)
  go_wp2_with fail
  (go_at_call 66; (with_reducible refine (put2 (l := s24) (r := s25) Z24.out e24).mono ?_); rintro e W25 ⟨u25, rfl, hz⟩; have Z25 := Aside0.mk hz; clear hz; clear c0 c1 c2 c3 c4 d0 d1 d2 d3 d4 f0 f1; obtain ⟨c0, c1, c2, c3, c4, d0, d1, d2, d3, d4, f0, f1⟩ := Z25.out.cell)
  go_wp2_with fail
  (go_at_call 66; (with_reducible refine (put2 (l := s25) (r := s26) Z25.out e25).mono ?_); rintro e W26 ⟨u26, rfl, hz⟩; have Z26 := Aside0.mk hz; clear hz; clear c0 c1 c2 c3 c4 d0 d1 d2 d3 d4 f0 f1; obtain ⟨c0, c1, c2, c3, c4, d0, d1, d2, d3, d4, f0, f1⟩ := Z26.out.cell)
  go_wp2
  rw [rounds_succ]
  go_wp2_with fail
  (go_at_call 67; (with_reducible refine (to2 (l := s26) (r := smallL) Z26.out eTo).mono ?_); rintro e W27 ⟨u27, rfl, hr, hb⟩; have HR := Aside0.mk hr; have HB := Aside0.mk hb; clear hr hb)
  go_wp2
  go_ret
  exact ⟨u27, rfl, HR.out, HB.out⟩
end Go.Proofs.Ytlegpojjbeglhaa.HeadSmall
