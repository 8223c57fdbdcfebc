/-
 A part of the proof of the statement that the claim names: see the last file.
-/
import Derived.Test.YtifnpljmjhnbaaaGreatDoorB5
import Derived.Test.YtifnpljmjhnbaaaGreatDoorAm6
namespace Go.Proofs.YtifnpljmjhnbaaaGreatDoor
open Go Go.Am
set_option maxRecDepth 100000
variable {w0:World}
noncomputable section
abbrev lsK:List Kd:=[.list intK]
abbrev TLL:=List (Tup lsK)
def tl (l:TLi):Tup lsK:=(l,())
def m134 (p:List (Tup paK)) (s:Int) (l:List (Tup evK)) (b:TLi):TLL:=(mr p s (l.drop b.length) b).map tl
abbrev Rnd:=Option (Obs × X × List D)
def gX (b:Bool) (k:Rnd):Rnd:=bif b then k else none
def rmI (x:TLi):Bool:=Nat.ble (x.length * 8) 1000000000000 && Nat.ble x.length 1000000000000
def rmL (x:TLL):Bool:=Nat.ble (x.length * 24) 1000000000000 && Nat.ble x.length 1000000000000
def okJ (j:Nat) (l:List (Tup evK)) (p:List (Tup paK)) (c:TLi):Bool:=Nat.beq c.length j && (Nat.ble j l.length && (Nat.ble l.length 4 && Nat.ble p.length 8))
def call1 (st:Int × TLL→List D) (j:Nat) (l:List (Tup evK)) (p:List (Tup paK)) (s:Int) (c:TLi) (k:Int) (o:TLL):Rnd:=
 gX (okJ j l p c) (bif Nat.beq l.length j then gX (rmL (o++[tl c])) (some ([],.normal,st (W (k + 1),o++[tl c]))) else gX (rmL (o++m134 p s l c)) (some ([],.normal,st (W (k + 1),o++m134 p s l c))))
def ap (st:Int × TLL→List D) (j:Nat) (l:List (Tup evK)) (p:List (Tup paK)) (s:Int) (b:TLi) (k:Int) (o:TLL) (n:Int):Rnd:=
 gX (rmI ([]++b)) (gX (rmI (([]++b)++[t1 n])) (call1 st j l p s (([]++b)++[t1 n]) k o))
end
end Go.Proofs.YtifnpljmjhnbaaaGreatDoor
namespace Go.Proofs.YtifnpljmjhnbaaaGreatDoor
open Go Go.Am
set_option maxRecDepth 100000
variable {w0:World}
noncomputable section
section
variable {st:Int × TLL→List D} {l:List (Tup evK)} {p:List (Tup paK)} {s:Int} {b:TLi} {k n:Int} {o:TLL}
end
end
end Go.Proofs.YtifnpljmjhnbaaaGreatDoor
namespace Go.Proofs.YtifnpljmjhnbaaaGreatDoor
open Go Go.Am
set_option maxRecDepth 100000
variable {w0:World}
noncomputable section
def smA (al:TLL):Bool:=Nat.blt 0 al.length && (Nat.ble al.length 100000 && al.all fun x=>sm x.1)
end
end Go.Proofs.YtifnpljmjhnbaaaGreatDoor
