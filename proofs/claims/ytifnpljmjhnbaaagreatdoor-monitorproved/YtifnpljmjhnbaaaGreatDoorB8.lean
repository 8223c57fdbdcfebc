/-
 A part of the proof of the statement that the claim names: see the last file.
-/
import Derived.Test.YtifnpljmjhnbaaaGreatDoorB5
namespace Go.Proofs.YtifnpljmjhnbaaaGreatDoor
open Go Go.Am
set_option maxRecDepth 100000
variable {w0:World}
noncomputable section
theorem rk10 (GA:GAf) (GB:GBf) (e:Tup evK) (s:Int):bodyK (((cfg w0).onH [(167,frF 1 0 0 GA GB)]).at [c129]) 60 (fnOf Tryz.f133) [.vec evK [e],.vec paK [],I s] = some (rkD (GA [vaL e [] s] 0 no8 (List.replicate 1 (t1 0)) 0 false)):=by kernel_rfl
theorem rk11 (GA:GAf) (GB:GBf) (e:Tup evK) (p:Tup paK) (s:Int):bodyK (((cfg w0).onH [(167,frF 1 1 0 GA GB)]).at [c129]) 60 (fnOf Tryz.f133) [.vec evK [e],.vec paK [p],I s] = some (rkD (GA [vaL e [p] s] 0 no8 (List.replicate 1 (t1 0)) 0 false)):=by kernel_rfl
theorem rk12 (GA:GAf) (GB:GBf) (e:Tup evK) (p q:Tup paK) (s:Int):bodyK (((cfg w0).onH [(167,frF 1 2 0 GA GB)]).at [c129]) 60 (fnOf Tryz.f133) [.vec evK [e],.vec paK [p,q],I s] = some (rkD (GA [vaL e [p,q] s] 0 no8 (List.replicate 1 (t1 0)) 0 false)):=by kernel_rfl
theorem rk13 (GA:GAf) (GB:GBf) (e:Tup evK) (p q r:Tup paK) (s:Int):bodyK (((cfg w0).onH [(167,frF 1 3 0 GA GB)]).at [c129]) 60 (fnOf Tryz.f133) [.vec evK [e],.vec paK [p,q,r],I s] = some (rkD (GA [vaL e [p,q,r] s] 0 no8 (List.replicate 1 (t1 0)) 0 false)):=by kernel_rfl
theorem rk14 (GA:GAf) (GB:GBf) (e:Tup evK) (p q r t:Tup paK) (s:Int):bodyK (((cfg w0).onH [(167,frF 1 4 0 GA GB)]).at [c129]) 60 (fnOf Tryz.f133) [.vec evK [e],.vec paK [p,q,r,t],I s] = some (rkD (GA [vaL e [p,q,r,t] s] 0 no8 (List.replicate 1 (t1 0)) 0 false)):=by kernel_rfl
theorem rk20 (GA:GAf) (GB:GBf) (e f:Tup evK) (s:Int):bodyK (((cfg w0).onH [(167,frF 2 0 0 GA GB)]).at [c129]) 60 (fnOf Tryz.f133) [.vec evK [e,f],.vec paK [],I s] = some (rkD (GA [vaL e [] s,vaL f [] s] 0 no8 (List.replicate 2 (t1 0)) 0 false)):=by kernel_rfl
theorem rk21 (GA:GAf) (GB:GBf) (e f:Tup evK) (p:Tup paK) (s:Int):bodyK (((cfg w0).onH [(167,frF 2 1 0 GA GB)]).at [c129]) 60 (fnOf Tryz.f133) [.vec evK [e,f],.vec paK [p],I s] = some (rkD (GA [vaL e [p] s,vaL f [p] s] 0 no8 (List.replicate 2 (t1 0)) 0 false)):=by kernel_rfl
theorem rk22 (GA:GAf) (GB:GBf) (e f:Tup evK) (p q:Tup paK) (s:Int):bodyK (((cfg w0).onH [(167,frF 2 2 0 GA GB)]).at [c129]) 60 (fnOf Tryz.f133) [.vec evK [e,f],.vec paK [p,q],I s] = some (rkD (GA [vaL e [p,q] s,vaL f [p,q] s] 0 no8 (List.replicate 2 (t1 0)) 0 false)):=by kernel_rfl
theorem rk23 (GA:GAf) (GB:GBf) (e f:Tup evK) (p q r:Tup paK) (s:Int):bodyK (((cfg w0).onH [(167,frF 2 3 0 GA GB)]).at [c129]) 60 (fnOf Tryz.f133) [.vec evK [e,f],.vec paK [p,q,r],I s] = some (rkD (GA [vaL e [p,q,r] s,vaL f [p,q,r] s] 0 no8 (List.replicate 2 (t1 0)) 0 false)):=by kernel_rfl
theorem rk24 (GA:GAf) (GB:GBf) (e f:Tup evK) (p q r t:Tup paK) (s:Int):bodyK (((cfg w0).onH [(167,frF 2 4 0 GA GB)]).at [c129]) 60 (fnOf Tryz.f133) [.vec evK [e,f],.vec paK [p,q,r,t],I s] = some (rkD (GA [vaL e [p,q,r,t] s,vaL f [p,q,r,t] s] 0 no8 (List.replicate 2 (t1 0)) 0 false)):=by kernel_rfl
theorem rk30 (GA:GAf) (GB:GBf) (e f g:Tup evK) (s:Int):bodyK (((cfg w0).onH [(167,frF 3 0 0 GA GB)]).at [c129]) 60 (fnOf Tryz.f133) [.vec evK [e,f,g],.vec paK [],I s] = some (rkD (GA [vaL e [] s,vaL f [] s,vaL g [] s] 0 no8 (List.replicate 3 (t1 0)) 0 false)):=by kernel_rfl
theorem rk31 (GA:GAf) (GB:GBf) (e f g:Tup evK) (p:Tup paK) (s:Int):bodyK (((cfg w0).onH [(167,frF 3 1 0 GA GB)]).at [c129]) 60 (fnOf Tryz.f133) [.vec evK [e,f,g],.vec paK [p],I s] = some (rkD (GA [vaL e [p] s,vaL f [p] s,vaL g [p] s] 0 no8 (List.replicate 3 (t1 0)) 0 false)):=by kernel_rfl
theorem rk32 (GA:GAf) (GB:GBf) (e f g:Tup evK) (p q:Tup paK) (s:Int):bodyK (((cfg w0).onH [(167,frF 3 2 0 GA GB)]).at [c129]) 60 (fnOf Tryz.f133) [.vec evK [e,f,g],.vec paK [p,q],I s] = some (rkD (GA [vaL e [p,q] s,vaL f [p,q] s,vaL g [p,q] s] 0 no8 (List.replicate 3 (t1 0)) 0 false)):=by kernel_rfl
theorem rk33 (GA:GAf) (GB:GBf) (e f g:Tup evK) (p q r:Tup paK) (s:Int):bodyK (((cfg w0).onH [(167,frF 3 3 0 GA GB)]).at [c129]) 60 (fnOf Tryz.f133) [.vec evK [e,f,g],.vec paK [p,q,r],I s] = some (rkD (GA [vaL e [p,q,r] s,vaL f [p,q,r] s,vaL g [p,q,r] s] 0 no8 (List.replicate 3 (t1 0)) 0 false)):=by kernel_rfl
theorem rk34 (GA:GAf) (GB:GBf) (e f g:Tup evK) (p q r t:Tup paK) (s:Int):bodyK (((cfg w0).onH [(167,frF 3 4 0 GA GB)]).at [c129]) 60 (fnOf Tryz.f133) [.vec evK [e,f,g],.vec paK [p,q,r,t],I s] = some (rkD (GA [vaL e [p,q,r,t] s,vaL f [p,q,r,t] s,vaL g [p,q,r,t] s] 0 no8 (List.replicate 3 (t1 0)) 0 false)):=by kernel_rfl
theorem rk40 (GA:GAf) (GB:GBf) (e f g h:Tup evK) (s:Int):bodyK (((cfg w0).onH [(167,frF 4 0 0 GA GB)]).at [c129]) 60 (fnOf Tryz.f133) [.vec evK [e,f,g,h],.vec paK [],I s] = some (rkD (GA [vaL e [] s,vaL f [] s,vaL g [] s,vaL h [] s] 0 no8 (List.replicate 4 (t1 0)) 0 false)):=by kernel_rfl
theorem rk41 (GA:GAf) (GB:GBf) (e f g h:Tup evK) (p:Tup paK) (s:Int):bodyK (((cfg w0).onH [(167,frF 4 1 0 GA GB)]).at [c129]) 60 (fnOf Tryz.f133) [.vec evK [e,f,g,h],.vec paK [p],I s] = some (rkD (GA [vaL e [p] s,vaL f [p] s,vaL g [p] s,vaL h [p] s] 0 no8 (List.replicate 4 (t1 0)) 0 false)):=by kernel_rfl
theorem rk42 (GA:GAf) (GB:GBf) (e f g h:Tup evK) (p q:Tup paK) (s:Int):bodyK (((cfg w0).onH [(167,frF 4 2 0 GA GB)]).at [c129]) 60 (fnOf Tryz.f133) [.vec evK [e,f,g,h],.vec paK [p,q],I s] = some (rkD (GA [vaL e [p,q] s,vaL f [p,q] s,vaL g [p,q] s,vaL h [p,q] s] 0 no8 (List.replicate 4 (t1 0)) 0 false)):=by kernel_rfl
theorem rk43 (GA:GAf) (GB:GBf) (e f g h:Tup evK) (p q r:Tup paK) (s:Int):bodyK (((cfg w0).onH [(167,frF 4 3 0 GA GB)]).at [c129]) 60 (fnOf Tryz.f133) [.vec evK [e,f,g,h],.vec paK [p,q,r],I s] = some (rkD (GA [vaL e [p,q,r] s,vaL f [p,q,r] s,vaL g [p,q,r] s,vaL h [p,q,r] s] 0 no8 (List.replicate 4 (t1 0)) 0 false)):=by kernel_rfl
theorem rk44 (GA:GAf) (GB:GBf) (e f g h:Tup evK) (p q r t:Tup paK) (s:Int):bodyK (((cfg w0).onH [(167,frF 4 4 0 GA GB)]).at [c129]) 60 (fnOf Tryz.f133) [.vec evK [e,f,g,h],.vec paK [p,q,r,t],I s] = some (rkD (GA [vaL e [p,q,r,t] s,vaL f [p,q,r,t] s,vaL g [p,q,r,t] s,vaL h [p,q,r,t] s] 0 no8 (List.replicate 4 (t1 0)) 0 false)):=by kernel_rfl
end
end Go.Proofs.YtifnpljmjhnbaaaGreatDoor
