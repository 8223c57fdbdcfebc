/-
 A part of the proof of the statement that the claim names: see the last file.
-/
import Derived.Test.YtifnpljmjhnbaaaGreatDoorB2
namespace Go.Proofs.YtifnpljmjhnbaaaGreatDoor
open Go Go.Am
set_option maxRecDepth 100000
variable {w0:World}
noncomputable section
theorem u_eight {P:Us→Prop} (h:∀ u0 u1 u2 u3 u4 u5 u6 u7,P [u0,u1,u2,u3,u4,u5,u6,u7]) (u:Us) (hu:u.length = 8):P u:=by
 match u,hu with
 | [u0,u1,u2,u3,u4,u5,u6,u7],_=>exact h u0 u1 u2 u3 u4 u5 u6 u7
def RnA (w0:World) (m n i:Nat):Prop:=∀ (GA:GAf) (GB:GBf) (L:List (Tup evK)) (rows:List TLi) (M:TLi) (sum s2:Int) (sv:Bool) (u:Us),u.length = 8→rows.length = m→(∀ r ∈ rows,r.length = n) →
 qF ((cgG w0 m n (i + 1) GA GB).at [c166,c168]) m n i sum u L rows bA s2 false sv M [] = lpA m i GA GB rows sum u (endA m i GA rows sum u (finF L m n rows)) (endB m i GB rows sum u (finF L m n rows)) (enum 0 (rows.getD i [])) M s2 sv
def RnB (w0:World) (m n i:Nat):Prop:=∀ (GA:GAf) (GB:GBf) (L:List (Tup evK)) (rows:List TLi) (M B:TLi) (sum s2 v:Int) (sv:Bool) (u:Us),u.length = 8→rows.length = m→(∀ r ∈ rows,r.length = n) →
 qF ((cgG w0 m n (i + 1) GA GB).at [c166,c168]) m n i sum u L rows (bB m v (14 + m)) s2 true sv M [.vec intK B true] = lpB m i GB rows sum u (endB m i GB rows sum u (finF L m n rows)) (enum 0 (rows.getD i [])) (M,v,B,s2,sv)
theorem ln0 {P:TLi→Prop} (h:P []) (r:TLi) (hr:r.length = 0):P r:=by
 match r,hr with
 | [],_=>exact h
theorem ln1 {P:TLi→Prop} (h:∀ x0,P [x0]) (r:TLi) (hr:r.length = 1):P r:=by
 match r,hr with
 | [x0],_=>exact h x0
theorem ln2 {P:TLi→Prop} (h:∀ x0 x1,P [x0,x1]) (r:TLi) (hr:r.length = 2):P r:=by
 match r,hr with
 | [x0,x1],_=>exact h x0 x1
theorem ln3 {P:TLi→Prop} (h:∀ x0 x1 x2,P [x0,x1,x2]) (r:TLi) (hr:r.length = 3):P r:=by
 match r,hr with
 | [x0,x1,x2],_=>exact h x0 x1 x2
theorem ln4 {P:TLi→Prop} (h:∀ x0 x1 x2 x3,P [x0,x1,x2,x3]) (r:TLi) (hr:r.length = 4):P r:=by
 match r,hr with
 | [x0,x1,x2,x3],_=>exact h x0 x1 x2 x3
theorem rs1 {n:Nat} {P:List TLi→Prop} (h:∀ r0,r0.length = n→P [r0]) (rows:List TLi) (hm:rows.length = 1) (hn:∀ r ∈ rows,r.length = n):P rows:=by
 match rows,hm with
 | [r0],_=>exact h r0 (hn r0 (by simp))
theorem rs2 {n:Nat} {P:List TLi→Prop} (h:∀ r0 r1,r0.length = n→r1.length = n→P [r0,r1]) (rows:List TLi) (hm:rows.length = 2) (hn:∀ r ∈ rows,r.length = n):P rows:=by
 match rows,hm with
 | [r0,r1],_=>exact h r0 r1 (hn r0 (by simp)) (hn r1 (by simp))
theorem rs3 {n:Nat} {P:List TLi→Prop} (h:∀ r0 r1 r2,r0.length = n→r1.length = n→r2.length = n→P [r0,r1,r2]) (rows:List TLi) (hm:rows.length = 3) (hn:∀ r ∈ rows,r.length = n):P rows:=by
 match rows,hm with
 | [r0,r1,r2],_=>exact h r0 r1 r2 (hn r0 (by simp)) (hn r1 (by simp)) (hn r2 (by simp))
theorem rs4 {n:Nat} {P:List TLi→Prop} (h:∀ r0 r1 r2 r3,r0.length = n→r1.length = n→r2.length = n→r3.length = n→P [r0,r1,r2,r3]) (rows:List TLi) (hm:rows.length = 4) (hn:∀ r ∈ rows,r.length = n):P rows:=by
 match rows,hm with
 | [r0,r1,r2,r3],_=>exact h r0 r1 r2 r3 (hn r0 (by simp)) (hn r1 (by simp)) (hn r2 (by simp)) (hn r3 (by simp))
end
end Go.Proofs.YtifnpljmjhnbaaaGreatDoor
namespace Go.Proofs.YtifnpljmjhnbaaaGreatDoor
open Go Go.Am
set_option maxRecDepth 100000
variable {w0:World}
noncomputable section
theorem leaf2A (n:Nat) (L:List (Tup evK)) (r0 r1 M:TLi) (sum s2:Int) (sv:Bool) (u0 u1 u2 u3 u4 u5 u6 u7:Bool):qF ((cfg w0).at [c166,c168]) 2 n 2 sum [u0,u1,u2,u3,u4,u5,u6,u7] L [r0,r1] bA s2 false sv M [] = leafA 2 sum (finF L 2 n [r0,r1]) M s2 sv:=by kernel_rfl
theorem leaf2B (n:Nat) (L:List (Tup evK)) (r0 r1 M B:TLi) (sum s2 v:Int) (sv:Bool) (u0 u1 u2 u3 u4 u5 u6 u7:Bool):qF ((cfg w0).at [c166,c168]) 2 n 2 sum [u0,u1,u2,u3,u4,u5,u6,u7] L [r0,r1] (bB 2 v (14 + 2)) s2 true sv M [.vec intK B true] = leafB 2 sum (finF L 2 n [r0,r1]) (M,v,B,s2,sv):=by kernel_rfl
theorem run200A:RnA w0 2 0 0:=by intro GA GB L rows M sum s2 sv u hu hm hn;apply rs2 (fun r0 r1 k0 k1=>?_) rows hm hn;apply ln0 (?_) r0 k0;apply ln0 (?_) r1 k1;apply u_eight (fun u0 u1 u2 u3 u4 u5 u6 u7=>?_) u hu;kernel_rfl
theorem run200B:RnB w0 2 0 0:=by intro GA GB L rows M B sum s2 v sv u hu hm hn;apply rs2 (fun r0 r1 k0 k1=>?_) rows hm hn;apply ln0 (?_) r0 k0;apply ln0 (?_) r1 k1;apply u_eight (fun u0 u1 u2 u3 u4 u5 u6 u7=>?_) u hu;kernel_rfl
theorem run201A:RnA w0 2 0 1:=by intro GA GB L rows M sum s2 sv u hu hm hn;apply rs2 (fun r0 r1 k0 k1=>?_) rows hm hn;apply ln0 (?_) r0 k0;apply ln0 (?_) r1 k1;apply u_eight (fun u0 u1 u2 u3 u4 u5 u6 u7=>?_) u hu;kernel_rfl
theorem run201B:RnB w0 2 0 1:=by intro GA GB L rows M B sum s2 v sv u hu hm hn;apply rs2 (fun r0 r1 k0 k1=>?_) rows hm hn;apply ln0 (?_) r0 k0;apply ln0 (?_) r1 k1;apply u_eight (fun u0 u1 u2 u3 u4 u5 u6 u7=>?_) u hu;kernel_rfl
theorem run210A:RnA w0 2 1 0:=by intro GA GB L rows M sum s2 sv u hu hm hn;apply rs2 (fun r0 r1 k0 k1=>?_) rows hm hn;apply ln1 (fun x00=>?_) r0 k0;apply ln1 (fun x10=>?_) r1 k1;apply u_eight (fun u0 u1 u2 u3 u4 u5 u6 u7=>?_) u hu;kernel_rfl
theorem run210B:RnB w0 2 1 0:=by intro GA GB L rows M B sum s2 v sv u hu hm hn;apply rs2 (fun r0 r1 k0 k1=>?_) rows hm hn;apply ln1 (fun x00=>?_) r0 k0;apply ln1 (fun x10=>?_) r1 k1;apply u_eight (fun u0 u1 u2 u3 u4 u5 u6 u7=>?_) u hu;kernel_rfl
theorem run211A:RnA w0 2 1 1:=by intro GA GB L rows M sum s2 sv u hu hm hn;apply rs2 (fun r0 r1 k0 k1=>?_) rows hm hn;apply ln1 (fun x00=>?_) r0 k0;apply ln1 (fun x10=>?_) r1 k1;apply u_eight (fun u0 u1 u2 u3 u4 u5 u6 u7=>?_) u hu;kernel_rfl
theorem run211B:RnB w0 2 1 1:=by intro GA GB L rows M B sum s2 v sv u hu hm hn;apply rs2 (fun r0 r1 k0 k1=>?_) rows hm hn;apply ln1 (fun x00=>?_) r0 k0;apply ln1 (fun x10=>?_) r1 k1;apply u_eight (fun u0 u1 u2 u3 u4 u5 u6 u7=>?_) u hu;kernel_rfl
theorem run220A:RnA w0 2 2 0:=by intro GA GB L rows M sum s2 sv u hu hm hn;apply rs2 (fun r0 r1 k0 k1=>?_) rows hm hn;apply ln2 (fun x00 x01=>?_) r0 k0;apply ln2 (fun x10 x11=>?_) r1 k1;apply u_eight (fun u0 u1 u2 u3 u4 u5 u6 u7=>?_) u hu;kernel_rfl
theorem run220B:RnB w0 2 2 0:=by intro GA GB L rows M B sum s2 v sv u hu hm hn;apply rs2 (fun r0 r1 k0 k1=>?_) rows hm hn;apply ln2 (fun x00 x01=>?_) r0 k0;apply ln2 (fun x10 x11=>?_) r1 k1;apply u_eight (fun u0 u1 u2 u3 u4 u5 u6 u7=>?_) u hu;kernel_rfl
theorem run221A:RnA w0 2 2 1:=by intro GA GB L rows M sum s2 sv u hu hm hn;apply rs2 (fun r0 r1 k0 k1=>?_) rows hm hn;apply ln2 (fun x00 x01=>?_) r0 k0;apply ln2 (fun x10 x11=>?_) r1 k1;apply u_eight (fun u0 u1 u2 u3 u4 u5 u6 u7=>?_) u hu;kernel_rfl
theorem run221B:RnB w0 2 2 1:=by intro GA GB L rows M B sum s2 v sv u hu hm hn;apply rs2 (fun r0 r1 k0 k1=>?_) rows hm hn;apply ln2 (fun x00 x01=>?_) r0 k0;apply ln2 (fun x10 x11=>?_) r1 k1;apply u_eight (fun u0 u1 u2 u3 u4 u5 u6 u7=>?_) u hu;kernel_rfl
theorem run230A:RnA w0 2 3 0:=by intro GA GB L rows M sum s2 sv u hu hm hn;apply rs2 (fun r0 r1 k0 k1=>?_) rows hm hn;apply ln3 (fun x00 x01 x02=>?_) r0 k0;apply ln3 (fun x10 x11 x12=>?_) r1 k1;apply u_eight (fun u0 u1 u2 u3 u4 u5 u6 u7=>?_) u hu;kernel_rfl
theorem run230B:RnB w0 2 3 0:=by intro GA GB L rows M B sum s2 v sv u hu hm hn;apply rs2 (fun r0 r1 k0 k1=>?_) rows hm hn;apply ln3 (fun x00 x01 x02=>?_) r0 k0;apply ln3 (fun x10 x11 x12=>?_) r1 k1;apply u_eight (fun u0 u1 u2 u3 u4 u5 u6 u7=>?_) u hu;kernel_rfl
theorem run231A:RnA w0 2 3 1:=by intro GA GB L rows M sum s2 sv u hu hm hn;apply rs2 (fun r0 r1 k0 k1=>?_) rows hm hn;apply ln3 (fun x00 x01 x02=>?_) r0 k0;apply ln3 (fun x10 x11 x12=>?_) r1 k1;apply u_eight (fun u0 u1 u2 u3 u4 u5 u6 u7=>?_) u hu;kernel_rfl
theorem run231B:RnB w0 2 3 1:=by intro GA GB L rows M B sum s2 v sv u hu hm hn;apply rs2 (fun r0 r1 k0 k1=>?_) rows hm hn;apply ln3 (fun x00 x01 x02=>?_) r0 k0;apply ln3 (fun x10 x11 x12=>?_) r1 k1;apply u_eight (fun u0 u1 u2 u3 u4 u5 u6 u7=>?_) u hu;kernel_rfl
theorem run240A:RnA w0 2 4 0:=by intro GA GB L rows M sum s2 sv u hu hm hn;apply rs2 (fun r0 r1 k0 k1=>?_) rows hm hn;apply ln4 (fun x00 x01 x02 x03=>?_) r0 k0;apply ln4 (fun x10 x11 x12 x13=>?_) r1 k1;apply u_eight (fun u0 u1 u2 u3 u4 u5 u6 u7=>?_) u hu;kernel_rfl
theorem run240B:RnB w0 2 4 0:=by intro GA GB L rows M B sum s2 v sv u hu hm hn;apply rs2 (fun r0 r1 k0 k1=>?_) rows hm hn;apply ln4 (fun x00 x01 x02 x03=>?_) r0 k0;apply ln4 (fun x10 x11 x12 x13=>?_) r1 k1;apply u_eight (fun u0 u1 u2 u3 u4 u5 u6 u7=>?_) u hu;kernel_rfl
theorem run241A:RnA w0 2 4 1:=by intro GA GB L rows M sum s2 sv u hu hm hn;apply rs2 (fun r0 r1 k0 k1=>?_) rows hm hn;apply ln4 (fun x00 x01 x02 x03=>?_) r0 k0;apply ln4 (fun x10 x11 x12 x13=>?_) r1 k1;apply u_eight (fun u0 u1 u2 u3 u4 u5 u6 u7=>?_) u hu;kernel_rfl
theorem run241B:RnB w0 2 4 1:=by intro GA GB L rows M B sum s2 v sv u hu hm hn;apply rs2 (fun r0 r1 k0 k1=>?_) rows hm hn;apply ln4 (fun x00 x01 x02 x03=>?_) r0 k0;apply ln4 (fun x10 x11 x12 x13=>?_) r1 k1;apply u_eight (fun u0 u1 u2 u3 u4 u5 u6 u7=>?_) u hu;kernel_rfl
end
end Go.Proofs.YtifnpljmjhnbaaaGreatDoor
