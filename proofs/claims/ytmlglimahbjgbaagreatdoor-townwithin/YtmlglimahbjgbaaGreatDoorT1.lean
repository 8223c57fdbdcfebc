/-
 A part of the proof of the statement that the claim names: see the last file.
-/
import Derived.Test.YtmlglimahbjgbaaGreatDoorAm2
import Derived.Test.YtmlglimahbjgbaaGreatDoorAm3
import Derived.Test.YtmlglimahbjgbaaGreatDoorProg
import Derived.KernelRfl
import Derived.IntWalk
namespace Go.Proofs.YtmlglimahbjgbaaGreatDoor
open Go Go.Am
set_option maxRecDepth 100000
noncomputable def tyTr : Go.Am.Tr Go.Am.ATy := (.nd (.nd (.nd (.nd (.nd (.nd (.nd (.nd (.nd .lf 0 ⟨Tryz.t0, Tryz.t0.desc⟩ .lf) 1 ⟨Tryz.t1, Tryz.t1.desc⟩ .lf) 2 ⟨Tryz.t2, Tryz.t2.desc⟩ (.nd (.nd .lf 3 ⟨Tryz.t3, Tryz.t3.desc⟩ .lf) 4 ⟨Tryz.t4, Tryz.t4.desc⟩ .lf)) 5 ⟨Tryz.t5, Tryz.t5.desc⟩ (.nd (.nd (.nd .lf 6 ⟨Tryz.t6, Tryz.t5.desc⟩ .lf) 7 ⟨Tryz.t7, Tryz.t7.desc⟩ .lf) 8 ⟨Tryz.t8, Tryz.t7.desc⟩ (.nd .lf 9 ⟨Tryz.t9, Tryz.t9.desc⟩ .lf))) 10 ⟨Tryz.t10, Tryz.t9.desc⟩ (.nd (.nd (.nd (.nd .lf 11 ⟨Tryz.t11, Tryz.t9.desc⟩ .lf) 12 ⟨Tryz.t12, Tryz.t12.desc⟩ .lf) 13 ⟨Tryz.t13, Tryz.t13.desc⟩ (.nd (.nd .lf 14 ⟨Tryz.t14, Tryz.t13.desc⟩ .lf) 15 ⟨Tryz.t15, Tryz.t15.desc⟩ .lf)) 16 ⟨Tryz.t16, Tryz.t16.desc⟩ (.nd (.nd (.nd .lf 17 ⟨Tryz.t17, Tryz.t17.desc⟩ .lf) 18 ⟨Tryz.t18, Tryz.t18.desc⟩ .lf) 19 ⟨Tryz.t19, Tryz.t18.desc⟩ (.nd .lf 20 ⟨Tryz.t20, Tryz.t20.desc⟩ .lf)))) 21 ⟨Tryz.t21, Tryz.t21.desc⟩ (.nd (.nd (.nd (.nd (.nd .lf 22 ⟨Tryz.t22, Tryz.t22.desc⟩ .lf) 23 ⟨Tryz.t23, Tryz.t22.desc⟩ .lf) 24 ⟨Tryz.t24, Tryz.t24.desc⟩ (.nd (.nd .lf 25 ⟨Tryz.t25, Tryz.t24.desc⟩ .lf) 26 ⟨Tryz.t26, Tryz.t26.desc⟩ .lf)) 27 ⟨Tryz.t27, Tryz.t26.desc⟩ (.nd (.nd (.nd .lf 28 ⟨Tryz.t28, Tryz.t28.desc⟩ .lf) 29 ⟨Tryz.t29, Tryz.t29.desc⟩ .lf) 30 ⟨Tryz.t30, Tryz.t3.desc⟩ (.nd .lf 31 ⟨Tryz.t31, Tryz.t31.desc⟩ .lf))) 32 ⟨Tryz.t32, Tryz.t32.desc⟩ (.nd (.nd (.nd (.nd .lf 33 ⟨Tryz.t33, Tryz.t24.desc⟩ .lf) 34 ⟨Tryz.t34, Tryz.t34.desc⟩ .lf) 35 ⟨Tryz.t35, Tryz.t35.desc⟩ (.nd .lf 36 ⟨Tryz.t36, Tryz.t36.desc⟩ .lf)) 37 ⟨Tryz.t37, Tryz.t36.desc⟩ (.nd (.nd (.nd .lf 38 ⟨Tryz.t38, Tryz.t38.desc⟩ .lf) 39 ⟨Tryz.t39, Tryz.t39.desc⟩ .lf) 40 ⟨Tryz.t40, Tryz.t40.desc⟩ (.nd .lf 41 ⟨Tryz.t41, Tryz.t41.desc⟩ .lf))))) 42 ⟨Tryz.t42, Tryz.t42.desc⟩ (.nd (.nd (.nd (.nd (.nd (.nd .lf 43 ⟨Tryz.t43, Tryz.t43.desc⟩ .lf) 44 ⟨Tryz.t44, Tryz.t44.desc⟩ .lf) 45 ⟨Tryz.t45, Tryz.t45.desc⟩ (.nd (.nd .lf 46 ⟨Tryz.t46, Tryz.t46.desc⟩ .lf) 47 ⟨Tryz.t47, Tryz.t47.desc⟩ .lf)) 48 ⟨Tryz.t48, Tryz.t48.desc⟩ (.nd (.nd (.nd .lf 49 ⟨Tryz.t49, Tryz.t49.desc⟩ .lf) 50 ⟨Tryz.t50, Tryz.t50.desc⟩ .lf) 51 ⟨Tryz.t51, Tryz.t51.desc⟩ (.nd .lf 52 ⟨Tryz.t52, Tryz.t52.desc⟩ .lf))) 53 ⟨Tryz.t53, Tryz.t53.desc⟩ (.nd (.nd (.nd (.nd .lf 54 ⟨Tryz.t54, Tryz.t54.desc⟩ .lf) 55 ⟨Tryz.t55, Tryz.t55.desc⟩ .lf) 56 ⟨Tryz.t56, Tryz.t55.desc⟩ (.nd .lf 57 ⟨Tryz.t57, Tryz.t57.desc⟩ .lf)) 58 ⟨Tryz.t58, Tryz.t58.desc⟩ (.nd (.nd (.nd .lf 59 ⟨Tryz.t59, Tryz.t59.desc⟩ .lf) 60 ⟨Tryz.t60, Tryz.t60.desc⟩ .lf) 61 ⟨Tryz.t61, Tryz.t61.desc⟩ (.nd .lf 62 ⟨Tryz.t62, Tryz.t62.desc⟩ .lf)))) 63 ⟨Tryz.t63, Tryz.t63.desc⟩ (.nd (.nd (.nd (.nd (.nd .lf 64 ⟨Tryz.t64, Tryz.t64.desc⟩ .lf) 65 ⟨Tryz.t65, Tryz.t65.desc⟩ .lf) 66 ⟨Tryz.t66, Tryz.t66.desc⟩ (.nd (.nd .lf 67 ⟨Tryz.t67, Tryz.t67.desc⟩ .lf) 68 ⟨Tryz.t68, Tryz.t68.desc⟩ .lf)) 69 ⟨Tryz.t69, Tryz.t69.desc⟩ (.nd (.nd (.nd .lf 70 ⟨Tryz.t70, Tryz.t70.desc⟩ .lf) 71 ⟨Tryz.t71, Tryz.t71.desc⟩ .lf) 72 ⟨Tryz.t72, Tryz.t72.desc⟩ (.nd .lf 73 ⟨Tryz.t73, Tryz.t73.desc⟩ .lf))) 74 ⟨Tryz.t74, Tryz.t74.desc⟩ (.nd (.nd (.nd (.nd .lf 75 ⟨Tryz.t75, Tryz.t75.desc⟩ .lf) 76 ⟨Tryz.t76, Tryz.t76.desc⟩ .lf) 77 ⟨Tryz.t77, Tryz.t77.desc⟩ (.nd .lf 78 ⟨Tryz.t78, Tryz.t77.desc⟩ .lf)) 79 ⟨Tryz.t79, Tryz.t79.desc⟩ (.nd (.nd (.nd .lf 80 ⟨Tryz.t80, Tryz.t80.desc⟩ .lf) 81 ⟨Tryz.t81, Tryz.t81.desc⟩ .lf) 82 ⟨Tryz.t82, Tryz.t82.desc⟩ (.nd .lf 83 ⟨Tryz.t83, Tryz.t83.desc⟩ .lf)))))) 84 ⟨Tryz.t84, Tryz.t84.desc⟩ (.nd (.nd (.nd (.nd (.nd (.nd (.nd .lf 85 ⟨Tryz.t85, Tryz.t85.desc⟩ .lf) 86 ⟨Tryz.t86, Tryz.t86.desc⟩ .lf) 87 ⟨Tryz.t87, Tryz.t87.desc⟩ (.nd (.nd .lf 88 ⟨Tryz.t88, Tryz.t88.desc⟩ .lf) 89 ⟨Tryz.t89, Tryz.t89.desc⟩ .lf)) 90 ⟨Tryz.t90, Tryz.t90.desc⟩ (.nd (.nd (.nd .lf 91 ⟨Tryz.t91, Tryz.t91.desc⟩ .lf) 92 ⟨Tryz.t92, Tryz.t92.desc⟩ .lf) 93 ⟨Tryz.t93, Tryz.t93.desc⟩ (.nd .lf 94 ⟨Tryz.t94, Tryz.t93.desc⟩ .lf))) 95 ⟨Tryz.t95, Tryz.t95.desc⟩ (.nd (.nd (.nd (.nd .lf 96 ⟨Tryz.t96, Tryz.t96.desc⟩ .lf) 97 ⟨Tryz.t97, Tryz.t97.desc⟩ .lf) 98 ⟨Tryz.t98, Tryz.t98.desc⟩ (.nd .lf 99 ⟨Tryz.t99, Tryz.t99.desc⟩ .lf)) 100 ⟨Tryz.t100, Tryz.t100.desc⟩ (.nd (.nd (.nd .lf 101 ⟨Tryz.t101, Tryz.t93.desc⟩ .lf) 102 ⟨Tryz.t102, Tryz.t102.desc⟩ .lf) 103 ⟨Tryz.t103, Tryz.t103.desc⟩ (.nd .lf 104 ⟨Tryz.t104, Tryz.t104.desc⟩ .lf)))) 105 ⟨Tryz.t105, Tryz.t105.desc⟩ (.nd (.nd (.nd (.nd (.nd .lf 106 ⟨Tryz.t106, Tryz.t106.desc⟩ .lf) 107 ⟨Tryz.t107, Tryz.t107.desc⟩ .lf) 108 ⟨Tryz.t108, Tryz.t108.desc⟩ (.nd (.nd .lf 109 ⟨Tryz.t109, Tryz.t109.desc⟩ .lf) 110 ⟨Tryz.t110, Tryz.t110.desc⟩ .lf)) 111 ⟨Tryz.t111, Tryz.t111.desc⟩ (.nd (.nd (.nd .lf 112 ⟨Tryz.t112, Tryz.t112.desc⟩ .lf) 113 ⟨Tryz.t113, Tryz.t113.desc⟩ .lf) 114 ⟨Tryz.t114, Tryz.t113.desc⟩ (.nd .lf 115 ⟨Tryz.t115, Tryz.t115.desc⟩ .lf))) 116 ⟨Tryz.t116, Tryz.t115.desc⟩ (.nd (.nd (.nd (.nd .lf 117 ⟨Tryz.t117, Tryz.t117.desc⟩ .lf) 118 ⟨Tryz.t118, Tryz.t117.desc⟩ .lf) 119 ⟨Tryz.t119, Tryz.t119.desc⟩ (.nd .lf 120 ⟨Tryz.t120, Tryz.t120.desc⟩ .lf)) 121 ⟨Tryz.t121, Tryz.t121.desc⟩ (.nd (.nd (.nd .lf 122 ⟨Tryz.t122, Tryz.t122.desc⟩ .lf) 123 ⟨Tryz.t123, Tryz.t123.desc⟩ .lf) 124 ⟨Tryz.t124, Tryz.t124.desc⟩ (.nd .lf 125 ⟨Tryz.t125, Tryz.t125.desc⟩ .lf))))) 126 ⟨Tryz.t126, Tryz.t126.desc⟩ (.nd (.nd (.nd (.nd (.nd (.nd .lf 127 ⟨Tryz.t127, Tryz.t113.desc⟩ .lf) 128 ⟨Tryz.t128, Tryz.t128.desc⟩ .lf) 129 ⟨Tryz.t129, Tryz.t129.desc⟩ (.nd (.nd .lf 130 ⟨Tryz.t130, Tryz.t130.desc⟩ .lf) 131 ⟨Tryz.t131, Tryz.t115.desc⟩ .lf)) 132 ⟨Tryz.t132, Tryz.t132.desc⟩ (.nd (.nd (.nd .lf 133 ⟨Tryz.t133, Tryz.t133.desc⟩ .lf) 134 ⟨Tryz.t134, Tryz.t134.desc⟩ .lf) 135 ⟨Tryz.t135, Tryz.t135.desc⟩ (.nd .lf 136 ⟨Tryz.t136, Tryz.t136.desc⟩ .lf))) 137 ⟨Tryz.t137, Tryz.t137.desc⟩ (.nd (.nd (.nd (.nd .lf 138 ⟨Tryz.t138, Tryz.t138.desc⟩ .lf) 139 ⟨Tryz.t139, Tryz.t139.desc⟩ .lf) 140 ⟨Tryz.t140, Tryz.t140.desc⟩ (.nd .lf 141 ⟨Tryz.t141, Tryz.t141.desc⟩ .lf)) 142 ⟨Tryz.t142, Tryz.t142.desc⟩ (.nd (.nd (.nd .lf 143 ⟨Tryz.t143, Tryz.t143.desc⟩ .lf) 144 ⟨Tryz.t144, Tryz.t144.desc⟩ .lf) 145 ⟨Tryz.t145, Tryz.t145.desc⟩ (.nd .lf 146 ⟨Tryz.t146, Tryz.t146.desc⟩ .lf)))) 147 ⟨Tryz.t147, Tryz.t147.desc⟩ (.nd (.nd (.nd (.nd (.nd .lf 148 ⟨Tryz.t148, Tryz.t148.desc⟩ .lf) 149 ⟨Tryz.t149, Tryz.t149.desc⟩ .lf) 150 ⟨Tryz.t150, Tryz.t150.desc⟩ (.nd (.nd .lf 151 ⟨Tryz.t151, Tryz.t151.desc⟩ .lf) 152 ⟨Tryz.t152, Tryz.t152.desc⟩ .lf)) 153 ⟨Tryz.t153, Tryz.t153.desc⟩ (.nd (.nd (.nd .lf 154 ⟨Tryz.t154, Tryz.t154.desc⟩ .lf) 155 ⟨Tryz.t155, Tryz.t155.desc⟩ .lf) 156 ⟨Tryz.t156, Tryz.t156.desc⟩ (.nd .lf 157 ⟨Tryz.t157, Tryz.t157.desc⟩ .lf))) 158 ⟨Tryz.t158, Tryz.t158.desc⟩ (.nd (.nd (.nd (.nd .lf 159 ⟨Tryz.t159, Tryz.t159.desc⟩ .lf) 160 ⟨Tryz.t160, Tryz.t160.desc⟩ .lf) 161 ⟨Tryz.t161, Tryz.t161.desc⟩ (.nd .lf 162 ⟨Tryz.t162, Tryz.t162.desc⟩ .lf)) 163 ⟨Tryz.t163, Tryz.t163.desc⟩ (.nd (.nd (.nd .lf 164 ⟨Tryz.t164, Tryz.t164.desc⟩ .lf) 165 ⟨Tryz.t165, Tryz.t165.desc⟩ .lf) 166 ⟨Tryz.t166, Tryz.t166.desc⟩ (.nd .lf 167 ⟨Tryz.t167, Tryz.t167.desc⟩ .lf))))))) 168 ⟨Tryz.t168, Tryz.t167.desc⟩ (.nd (.nd (.nd (.nd (.nd (.nd (.nd (.nd .lf 169 ⟨Tryz.t169, Tryz.t169.desc⟩ .lf) 170 ⟨Tryz.t170, Tryz.t170.desc⟩ .lf) 171 ⟨Tryz.t171, Tryz.t171.desc⟩ (.nd (.nd .lf 172 ⟨Tryz.t172, Tryz.t172.desc⟩ .lf) 173 ⟨Tryz.t173, Tryz.t173.desc⟩ .lf)) 174 ⟨Tryz.t174, Tryz.t174.desc⟩ (.nd (.nd (.nd .lf 175 ⟨Tryz.t175, Tryz.t175.desc⟩ .lf) 176 ⟨Tryz.t176, Tryz.t176.desc⟩ .lf) 177 ⟨Tryz.t177, Tryz.t177.desc⟩ (.nd .lf 178 ⟨Tryz.t178, Tryz.t178.desc⟩ .lf))) 179 ⟨Tryz.t179, Tryz.t178.desc⟩ (.nd (.nd (.nd (.nd .lf 180 ⟨Tryz.t180, Tryz.t180.desc⟩ .lf) 181 ⟨Tryz.t181, Tryz.t181.desc⟩ .lf) 182 ⟨Tryz.t182, Tryz.t182.desc⟩ (.nd .lf 183 ⟨Tryz.t183, Tryz.t182.desc⟩ .lf)) 184 ⟨Tryz.t184, Tryz.t184.desc⟩ (.nd (.nd (.nd .lf 185 ⟨Tryz.t185, Tryz.t185.desc⟩ .lf) 186 ⟨Tryz.t186, Tryz.t186.desc⟩ .lf) 187 ⟨Tryz.t187, Tryz.t187.desc⟩ (.nd .lf 188 ⟨Tryz.t188, Tryz.t188.desc⟩ .lf)))) 189 ⟨Tryz.t189, Tryz.t189.desc⟩ (.nd (.nd (.nd (.nd (.nd .lf 190 ⟨Tryz.t190, Tryz.t190.desc⟩ .lf) 191 ⟨Tryz.t191, Tryz.t190.desc⟩ .lf) 192 ⟨Tryz.t192, Tryz.t192.desc⟩ (.nd (.nd .lf 193 ⟨Tryz.t193, Tryz.t193.desc⟩ .lf) 194 ⟨Tryz.t194, Tryz.t194.desc⟩ .lf)) 195 ⟨Tryz.t195, Tryz.t195.desc⟩ (.nd (.nd (.nd .lf 196 ⟨Tryz.t196, Tryz.t196.desc⟩ .lf) 197 ⟨Tryz.t197, Tryz.t197.desc⟩ .lf) 198 ⟨Tryz.t198, Tryz.t198.desc⟩ (.nd .lf 199 ⟨Tryz.t199, Tryz.t199.desc⟩ .lf))) 200 ⟨Tryz.t200, Tryz.t167.desc⟩ (.nd (.nd (.nd (.nd .lf 201 ⟨Tryz.t201, Tryz.t201.desc⟩ .lf) 202 ⟨Tryz.t202, Tryz.t202.desc⟩ .lf) 203 ⟨Tryz.t203, Tryz.t203.desc⟩ (.nd .lf 204 ⟨Tryz.t204, Tryz.t204.desc⟩ .lf)) 205 ⟨Tryz.t205, Tryz.t204.desc⟩ (.nd (.nd (.nd .lf 206 ⟨Tryz.t206, Tryz.t206.desc⟩ .lf) 207 ⟨Tryz.t207, Tryz.t207.desc⟩ .lf) 208 ⟨Tryz.t208, Tryz.t208.desc⟩ (.nd .lf 209 ⟨Tryz.t209, Tryz.t208.desc⟩ .lf))))) 210 ⟨Tryz.t210, Tryz.t210.desc⟩ (.nd (.nd (.nd (.nd (.nd (.nd .lf 211 ⟨Tryz.t211, Tryz.t211.desc⟩ .lf) 212 ⟨Tryz.t212, Tryz.t212.desc⟩ .lf) 213 ⟨Tryz.t213, Tryz.t213.desc⟩ (.nd (.nd .lf 214 ⟨Tryz.t214, Tryz.t214.desc⟩ .lf) 215 ⟨Tryz.t215, Tryz.t215.desc⟩ .lf)) 216 ⟨Tryz.t216, Tryz.t216.desc⟩ (.nd (.nd (.nd .lf 217 ⟨Tryz.t217, Tryz.t217.desc⟩ .lf) 218 ⟨Tryz.t218, Tryz.t218.desc⟩ .lf) 219 ⟨Tryz.t219, Tryz.t219.desc⟩ (.nd .lf 220 ⟨Tryz.t220, Tryz.t220.desc⟩ .lf))) 221 ⟨Tryz.t221, Tryz.t221.desc⟩ (.nd (.nd (.nd (.nd .lf 222 ⟨Tryz.t222, Tryz.t222.desc⟩ .lf) 223 ⟨Tryz.t223, Tryz.t223.desc⟩ .lf) 224 ⟨Tryz.t224, Tryz.t224.desc⟩ (.nd .lf 225 ⟨Tryz.t225, Tryz.t225.desc⟩ .lf)) 226 ⟨Tryz.t226, Tryz.t226.desc⟩ (.nd (.nd (.nd .lf 227 ⟨Tryz.t227, Tryz.t227.desc⟩ .lf) 228 ⟨Tryz.t228, Tryz.t228.desc⟩ .lf) 229 ⟨Tryz.t229, Tryz.t229.desc⟩ (.nd .lf 230 ⟨Tryz.t230, Tryz.t230.desc⟩ .lf)))) 231 ⟨Tryz.t231, Tryz.t231.desc⟩ (.nd (.nd (.nd (.nd (.nd .lf 232 ⟨Tryz.t232, Tryz.t232.desc⟩ .lf) 233 ⟨Tryz.t233, Tryz.t233.desc⟩ .lf) 234 ⟨Tryz.t234, Tryz.t234.desc⟩ (.nd (.nd .lf 235 ⟨Tryz.t235, Tryz.t235.desc⟩ .lf) 236 ⟨Tryz.t236, Tryz.t235.desc⟩ .lf)) 237 ⟨Tryz.t237, Tryz.t237.desc⟩ (.nd (.nd (.nd .lf 238 ⟨Tryz.t238, Tryz.t238.desc⟩ .lf) 239 ⟨Tryz.t239, Tryz.t239.desc⟩ .lf) 240 ⟨Tryz.t240, Tryz.t240.desc⟩ (.nd .lf 241 ⟨Tryz.t241, Tryz.t241.desc⟩ .lf))) 242 ⟨Tryz.t242, Tryz.t242.desc⟩ (.nd (.nd (.nd (.nd .lf 243 ⟨Tryz.t243, Tryz.t242.desc⟩ .lf) 244 ⟨Tryz.t244, Tryz.t244.desc⟩ .lf) 245 ⟨Tryz.t245, Tryz.t245.desc⟩ (.nd .lf 246 ⟨Tryz.t246, Tryz.t246.desc⟩ .lf)) 247 ⟨Tryz.t247, Tryz.t247.desc⟩ (.nd (.nd (.nd .lf 248 ⟨Tryz.t248, Tryz.t248.desc⟩ .lf) 249 ⟨Tryz.t249, Tryz.t249.desc⟩ .lf) 250 ⟨Tryz.t250, Tryz.t250.desc⟩ (.nd .lf 251 ⟨Tryz.t251, Tryz.t251.desc⟩ .lf)))))) 252 ⟨Tryz.t252, Tryz.t251.desc⟩ (.nd (.nd (.nd (.nd (.nd (.nd (.nd .lf 253 ⟨Tryz.t253, Tryz.t253.desc⟩ .lf) 254 ⟨Tryz.t254, Tryz.t254.desc⟩ .lf) 255 ⟨Tryz.t255, Tryz.t255.desc⟩ (.nd (.nd .lf 256 ⟨Tryz.t256, Tryz.t256.desc⟩ .lf) 257 ⟨Tryz.t257, Tryz.t257.desc⟩ .lf)) 258 ⟨Tryz.t258, Tryz.t258.desc⟩ (.nd (.nd (.nd .lf 259 ⟨Tryz.t259, Tryz.t259.desc⟩ .lf) 260 ⟨Tryz.t260, Tryz.t260.desc⟩ .lf) 261 ⟨Tryz.t261, Tryz.t261.desc⟩ (.nd .lf 262 ⟨Tryz.t262, Tryz.t262.desc⟩ .lf))) 263 ⟨Tryz.t263, Tryz.t263.desc⟩ (.nd (.nd (.nd (.nd .lf 264 ⟨Tryz.t264, Tryz.t264.desc⟩ .lf) 265 ⟨Tryz.t265, Tryz.t265.desc⟩ .lf) 266 ⟨Tryz.t266, Tryz.t266.desc⟩ (.nd .lf 267 ⟨Tryz.t267, Tryz.t267.desc⟩ .lf)) 268 ⟨Tryz.t268, Tryz.t268.desc⟩ (.nd (.nd (.nd .lf 269 ⟨Tryz.t269, Tryz.t269.desc⟩ .lf) 270 ⟨Tryz.t270, Tryz.t270.desc⟩ .lf) 271 ⟨Tryz.t271, Tryz.t270.desc⟩ (.nd .lf 272 ⟨Tryz.t272, Tryz.t272.desc⟩ .lf)))) 273 ⟨Tryz.t273, Tryz.t273.desc⟩ (.nd (.nd (.nd (.nd (.nd .lf 274 ⟨Tryz.t274, Tryz.t273.desc⟩ .lf) 275 ⟨Tryz.t275, Tryz.t275.desc⟩ .lf) 276 ⟨Tryz.t276, Tryz.t276.desc⟩ (.nd (.nd .lf 277 ⟨Tryz.t277, Tryz.t277.desc⟩ .lf) 278 ⟨Tryz.t278, Tryz.t278.desc⟩ .lf)) 279 ⟨Tryz.t279, Tryz.t279.desc⟩ (.nd (.nd (.nd .lf 280 ⟨Tryz.t280, Tryz.t3.desc⟩ .lf) 281 ⟨Tryz.t281, Tryz.t281.desc⟩ .lf) 282 ⟨Tryz.t282, Tryz.t282.desc⟩ (.nd .lf 283 ⟨Tryz.t283, Tryz.t283.desc⟩ .lf))) 284 ⟨Tryz.t284, Tryz.t284.desc⟩ (.nd (.nd (.nd (.nd .lf 285 ⟨Tryz.t285, Tryz.t285.desc⟩ .lf) 286 ⟨Tryz.t286, Tryz.t286.desc⟩ .lf) 287 ⟨Tryz.t287, Tryz.t287.desc⟩ (.nd .lf 288 ⟨Tryz.t288, Tryz.t288.desc⟩ .lf)) 289 ⟨Tryz.t289, Tryz.t289.desc⟩ (.nd (.nd (.nd .lf 290 ⟨Tryz.t290, Tryz.t290.desc⟩ .lf) 291 ⟨Tryz.t291, Tryz.t291.desc⟩ .lf) 292 ⟨Tryz.t292, Tryz.t292.desc⟩ (.nd .lf 293 ⟨Tryz.t293, Tryz.t293.desc⟩ .lf))))) 294 ⟨Tryz.t294, Tryz.t294.desc⟩ (.nd (.nd (.nd (.nd (.nd (.nd .lf 295 ⟨Tryz.t295, Tryz.t289.desc⟩ .lf) 296 ⟨Tryz.t296, Tryz.t296.desc⟩ .lf) 297 ⟨Tryz.t297, Tryz.t297.desc⟩ (.nd (.nd .lf 298 ⟨Tryz.t298, Tryz.t298.desc⟩ .lf) 299 ⟨Tryz.t299, Tryz.t299.desc⟩ .lf)) 300 ⟨Tryz.t300, Tryz.t300.desc⟩ (.nd (.nd (.nd .lf 301 ⟨Tryz.t301, Tryz.t301.desc⟩ .lf) 302 ⟨Tryz.t302, Tryz.t302.desc⟩ .lf) 303 ⟨Tryz.t303, Tryz.t303.desc⟩ (.nd .lf 304 ⟨Tryz.t304, Tryz.t304.desc⟩ .lf))) 305 ⟨Tryz.t305, Tryz.t305.desc⟩ (.nd (.nd (.nd (.nd .lf 306 ⟨Tryz.t306, Tryz.t306.desc⟩ .lf) 307 ⟨Tryz.t307, Tryz.t307.desc⟩ .lf) 308 ⟨Tryz.t308, Tryz.t308.desc⟩ (.nd .lf 309 ⟨Tryz.t309, Tryz.t309.desc⟩ .lf)) 310 ⟨Tryz.t310, Tryz.t310.desc⟩ (.nd (.nd (.nd .lf 311 ⟨Tryz.t311, Tryz.t311.desc⟩ .lf) 312 ⟨Tryz.t312, Tryz.t312.desc⟩ .lf) 313 ⟨Tryz.t313, Tryz.t313.desc⟩ (.nd .lf 314 ⟨Tryz.t314, Tryz.t314.desc⟩ .lf)))) 315 ⟨Tryz.t315, Tryz.t315.desc⟩ (.nd (.nd (.nd (.nd (.nd .lf 316 ⟨Tryz.t316, Tryz.t316.desc⟩ .lf) 317 ⟨Tryz.t317, Tryz.t317.desc⟩ .lf) 318 ⟨Tryz.t318, Tryz.t317.desc⟩ (.nd (.nd .lf 319 ⟨Tryz.t319, Tryz.t319.desc⟩ .lf) 320 ⟨Tryz.t320, Tryz.t320.desc⟩ .lf)) 321 ⟨Tryz.t321, Tryz.t321.desc⟩ (.nd (.nd (.nd .lf 322 ⟨Tryz.t322, Tryz.t322.desc⟩ .lf) 323 ⟨Tryz.t323, Tryz.t323.desc⟩ .lf) 324 ⟨Tryz.t324, Tryz.t324.desc⟩ (.nd .lf 325 ⟨Tryz.t325, Tryz.t324.desc⟩ .lf))) 326 ⟨Tryz.t326, Tryz.t326.desc⟩ (.nd (.nd (.nd (.nd .lf 327 ⟨Tryz.t327, Tryz.t327.desc⟩ .lf) 328 ⟨Tryz.t328, Tryz.t327.desc⟩ .lf) 329 ⟨Tryz.t329, Tryz.t5.desc⟩ (.nd .lf 330 ⟨Tryz.t330, Tryz.t5.desc⟩ .lf)) 331 ⟨Tryz.t331, Tryz.t331.desc⟩ (.nd (.nd (.nd .lf 332 ⟨Tryz.t332, Tryz.t21.desc⟩ .lf) 333 ⟨Tryz.t333, Tryz.t21.desc⟩ .lf) 334 ⟨Tryz.t334, Tryz.t334.desc⟩ (.nd .lf 335 ⟨Tryz.t335, Tryz.t334.desc⟩ .lf))))))))
noncomputable def fnTr : Go.Am.Tr Go.Am.AFn := (.nd (.nd (.nd (.nd (.nd (.nd (.nd (.nd .lf 2 (Go.Am.fnOf Tryz.f2) .lf) 3 (Go.Am.fnOf Tryz.f3) (.nd .lf 4 (Go.Am.fnOf Tryz.f4) .lf)) 5 (Go.Am.fnOf Tryz.f5) (.nd (.nd .lf 6 (Go.Am.fnOf Tryz.f6) .lf) 7 (Go.Am.fnOf Tryz.f7) (.nd .lf 8 (Go.Am.fnOf Tryz.f8) .lf))) 9 (Go.Am.fnOf Tryz.f9) (.nd (.nd (.nd .lf 10 (Go.Am.fnOf Tryz.f10) .lf) 11 (Go.Am.fnOf Tryz.f11) (.nd .lf 12 (Go.Am.fnOf Tryz.f12) .lf)) 13 (Go.Am.fnOf Tryz.f13) (.nd (.nd .lf 14 (Go.Am.fnOf Tryz.f14) .lf) 15 (Go.Am.fnOf Tryz.f15) .lf))) 16 (Go.Am.fnOf Tryz.f16) (.nd (.nd (.nd (.nd .lf 17 (Go.Am.fnOf Tryz.f17) .lf) 18 (Go.Am.fnOf Tryz.f18) (.nd .lf 19 (Go.Am.fnOf Tryz.f19) .lf)) 20 (Go.Am.fnOf Tryz.f20) (.nd (.nd .lf 21 (Go.Am.fnOf Tryz.f21) .lf) 22 (Go.Am.fnOf Tryz.f22) (.nd .lf 23 (Go.Am.fnOf Tryz.f23) .lf))) 24 (Go.Am.fnOf Tryz.f24) (.nd (.nd (.nd .lf 25 (Go.Am.fnOf Tryz.f25) .lf) 26 (Go.Am.fnOf Tryz.f26) (.nd .lf 27 (Go.Am.fnOf Tryz.f27) .lf)) 28 (Go.Am.fnOf Tryz.f28) (.nd (.nd .lf 29 (Go.Am.fnOf Tryz.f29) .lf) 30 (Go.Am.fnOf Tryz.f30) .lf)))) 31 (Go.Am.fnOf Tryz.f31) (.nd (.nd (.nd (.nd (.nd .lf 32 (Go.Am.fnOf Tryz.f32) .lf) 33 (Go.Am.fnOf Tryz.f33) (.nd .lf 34 (Go.Am.fnOf Tryz.f34) .lf)) 35 (Go.Am.fnOf Tryz.f35) (.nd (.nd .lf 36 (Go.Am.fnOf Tryz.f36) .lf) 37 (Go.Am.fnOf Tryz.f37) (.nd .lf 38 (Go.Am.fnOf Tryz.f38) .lf))) 39 (Go.Am.fnOf Tryz.f39) (.nd (.nd (.nd .lf 40 (Go.Am.fnOf Tryz.f40) .lf) 41 (Go.Am.fnOf Tryz.f41) (.nd .lf 42 (Go.Am.fnOf Tryz.f42) .lf)) 43 (Go.Am.fnOf Tryz.f43) (.nd (.nd .lf 44 (Go.Am.fnOf Tryz.f44) .lf) 45 (Go.Am.fnOf Tryz.f45) .lf))) 46 (Go.Am.fnOf Tryz.f46) (.nd (.nd (.nd (.nd .lf 47 (Go.Am.fnOf Tryz.f47) .lf) 48 (Go.Am.fnOf Tryz.f48) (.nd .lf 49 (Go.Am.fnOf Tryz.f49) .lf)) 50 (Go.Am.fnOf Tryz.f50) (.nd (.nd .lf 51 (Go.Am.fnOf Tryz.f51) .lf) 52 (Go.Am.fnOf Tryz.f52) (.nd .lf 53 (Go.Am.fnOf Tryz.f53) .lf))) 54 (Go.Am.fnOf Tryz.f54) (.nd (.nd (.nd .lf 55 (Go.Am.fnOf Tryz.f55) .lf) 56 (Go.Am.fnOf Tryz.f56) (.nd .lf 57 (Go.Am.fnOf Tryz.f57) .lf)) 58 (Go.Am.fnOf Tryz.f58) (.nd (.nd .lf 59 (Go.Am.fnOf Tryz.f59) .lf) 60 (Go.Am.fnOf Tryz.f60) .lf))))) 61 (Go.Am.fnOf Tryz.f61) (.nd (.nd (.nd (.nd (.nd (.nd .lf 62 (Go.Am.fnOf Tryz.f62) .lf) 63 (Go.Am.fnOf Tryz.f63) (.nd .lf 64 (Go.Am.fnOf Tryz.f64) .lf)) 65 (Go.Am.fnOf Tryz.f65) (.nd (.nd .lf 66 (Go.Am.fnOf Tryz.f66) .lf) 67 (Go.Am.fnOf Tryz.f67) (.nd .lf 68 (Go.Am.fnOf Tryz.f68) .lf))) 69 (Go.Am.fnOf Tryz.f69) (.nd (.nd (.nd .lf 70 (Go.Am.fnOf Tryz.f70) .lf) 71 (Go.Am.fnOf Tryz.f71) (.nd .lf 72 (Go.Am.fnOf Tryz.f72) .lf)) 73 (Go.Am.fnOf Tryz.f73) (.nd (.nd .lf 74 (Go.Am.fnOf Tryz.f74) .lf) 75 (Go.Am.fnOf Tryz.f75) .lf))) 76 (Go.Am.fnOf Tryz.f76) (.nd (.nd (.nd (.nd .lf 77 (Go.Am.fnOf Tryz.f77) .lf) 78 (Go.Am.fnOf Tryz.f78) (.nd .lf 79 (Go.Am.fnOf Tryz.f79) .lf)) 80 (Go.Am.fnOf Tryz.f80) (.nd (.nd .lf 81 (Go.Am.fnOf Tryz.f81) .lf) 82 (Go.Am.fnOf Tryz.f82) (.nd .lf 83 (Go.Am.fnOf Tryz.f83) .lf))) 84 (Go.Am.fnOf Tryz.f84) (.nd (.nd (.nd .lf 85 (Go.Am.fnOf Tryz.f85) .lf) 86 (Go.Am.fnOf Tryz.f86) (.nd .lf 87 (Go.Am.fnOf Tryz.f87) .lf)) 88 (Go.Am.fnOf Tryz.f88) (.nd (.nd .lf 89 (Go.Am.fnOf Tryz.f89) .lf) 90 (Go.Am.fnOf Tryz.f90) .lf)))) 91 (Go.Am.fnOf Tryz.f91) (.nd (.nd (.nd (.nd (.nd .lf 92 (Go.Am.fnOf Tryz.f92) .lf) 93 (Go.Am.fnOf Tryz.f93) (.nd .lf 94 (Go.Am.fnOf Tryz.f94) .lf)) 95 (Go.Am.fnOf Tryz.f95) (.nd (.nd .lf 96 (Go.Am.fnOf Tryz.f96) .lf) 97 (Go.Am.fnOf Tryz.f97) (.nd .lf 98 (Go.Am.fnOf Tryz.f98) .lf))) 99 (Go.Am.fnOf Tryz.f99) (.nd (.nd (.nd .lf 100 (Go.Am.fnOf Tryz.f100) .lf) 101 (Go.Am.fnOf Tryz.f101) (.nd .lf 102 (Go.Am.fnOf Tryz.f102) .lf)) 103 (Go.Am.fnOf Tryz.f103) (.nd (.nd .lf 104 (Go.Am.fnOf Tryz.f104) .lf) 105 (Go.Am.fnOf Tryz.f105) .lf))) 106 (Go.Am.fnOf Tryz.f106) (.nd (.nd (.nd (.nd .lf 107 (Go.Am.fnOf Tryz.f107) .lf) 108 (Go.Am.fnOf Tryz.f108) (.nd .lf 109 (Go.Am.fnOf Tryz.f109) .lf)) 110 (Go.Am.fnOf Tryz.f110) (.nd (.nd .lf 111 (Go.Am.fnOf Tryz.f111) .lf) 112 (Go.Am.fnOf Tryz.f112) (.nd .lf 113 (Go.Am.fnOf Tryz.f113) .lf))) 114 (Go.Am.fnOf Tryz.f114) (.nd (.nd (.nd .lf 115 (Go.Am.fnOf Tryz.f115) .lf) 116 (Go.Am.fnOf Tryz.f116) (.nd .lf 117 (Go.Am.fnOf Tryz.f117) .lf)) 118 (Go.Am.fnOf Tryz.f118) (.nd (.nd .lf 119 (Go.Am.fnOf Tryz.f119) .lf) 120 (Go.Am.fnOf Tryz.f120) .lf)))))) 121 (Go.Am.fnOf Tryz.f121) (.nd (.nd (.nd (.nd (.nd (.nd (.nd .lf 122 (Go.Am.fnOf Tryz.f122) .lf) 123 (Go.Am.fnOf Tryz.f123) (.nd .lf 124 (Go.Am.fnOf Tryz.f124) .lf)) 125 (Go.Am.fnOf Tryz.f125) (.nd (.nd .lf 126 (Go.Am.fnOf Tryz.f126) .lf) 127 (Go.Am.fnOf Tryz.f127) (.nd .lf 128 (Go.Am.fnOf Tryz.f128) .lf))) 129 (Go.Am.fnOf Tryz.f129) (.nd (.nd (.nd .lf 130 (Go.Am.fnOf Tryz.f130) .lf) 131 (Go.Am.fnOf Tryz.f131) (.nd .lf 132 (Go.Am.fnOf Tryz.f132) .lf)) 133 (Go.Am.fnOf Tryz.f133) (.nd (.nd .lf 134 (Go.Am.fnOf Tryz.f134) .lf) 135 (Go.Am.fnOf Tryz.f135) .lf))) 136 (Go.Am.fnOf Tryz.f136) (.nd (.nd (.nd (.nd .lf 137 (Go.Am.fnOf Tryz.f137) .lf) 138 (Go.Am.fnOf Tryz.f138) (.nd .lf 139 (Go.Am.fnOf Tryz.f139) .lf)) 140 (Go.Am.fnOf Tryz.f140) (.nd (.nd .lf 141 (Go.Am.fnOf Tryz.f141) .lf) 142 (Go.Am.fnOf Tryz.f142) (.nd .lf 143 (Go.Am.fnOf Tryz.f143) .lf))) 144 (Go.Am.fnOf Tryz.f144) (.nd (.nd (.nd .lf 145 (Go.Am.fnOf Tryz.f145) .lf) 146 (Go.Am.fnOf Tryz.f146) (.nd .lf 147 (Go.Am.fnOf Tryz.f147) .lf)) 148 (Go.Am.fnOf Tryz.f148) (.nd (.nd .lf 149 (Go.Am.fnOf Tryz.f149) .lf) 150 (Go.Am.fnOf Tryz.f150) .lf)))) 151 (Go.Am.fnOf Tryz.f151) (.nd (.nd (.nd (.nd (.nd .lf 152 (Go.Am.fnOf Tryz.f152) .lf) 153 (Go.Am.fnOf Tryz.f153) (.nd .lf 154 (Go.Am.fnOf Tryz.f154) .lf)) 155 (Go.Am.fnOf Tryz.f155) (.nd (.nd .lf 156 (Go.Am.fnOf Tryz.f156) .lf) 157 (Go.Am.fnOf Tryz.f157) (.nd .lf 158 (Go.Am.fnOf Tryz.f158) .lf))) 159 (Go.Am.fnOf Tryz.f159) (.nd (.nd (.nd .lf 160 (Go.Am.fnOf Tryz.f160) .lf) 161 (Go.Am.fnOf Tryz.f161) (.nd .lf 162 (Go.Am.fnOf Tryz.f162) .lf)) 163 (Go.Am.fnOf Tryz.f163) (.nd (.nd .lf 164 (Go.Am.fnOf Tryz.f164) .lf) 165 (Go.Am.fnOf Tryz.f165) .lf))) 166 (Go.Am.fnOf Tryz.f166) (.nd (.nd (.nd (.nd .lf 167 (Go.Am.fnOf Tryz.f167) .lf) 168 (Go.Am.fnOf Tryz.f168) (.nd .lf 169 (Go.Am.fnOf Tryz.f169) .lf)) 170 (Go.Am.fnOf Tryz.f170) (.nd (.nd .lf 171 (Go.Am.fnOf Tryz.f171) .lf) 172 (Go.Am.fnOf Tryz.f172) (.nd .lf 173 (Go.Am.fnOf Tryz.f173) .lf))) 174 (Go.Am.fnOf Tryz.f174) (.nd (.nd (.nd .lf 175 (Go.Am.fnOf Tryz.f175) .lf) 176 (Go.Am.fnOf Tryz.f176) (.nd .lf 177 (Go.Am.fnOf Tryz.f177) .lf)) 178 (Go.Am.fnOf Tryz.f178) (.nd (.nd .lf 179 (Go.Am.fnOf Tryz.f179) .lf) 180 (Go.Am.fnOf Tryz.f180) .lf))))) 181 (Go.Am.fnOf Tryz.f181) (.nd (.nd (.nd (.nd (.nd (.nd .lf 182 (Go.Am.fnOf Tryz.f182) .lf) 183 (Go.Am.fnOf Tryz.f183) (.nd .lf 184 (Go.Am.fnOf Tryz.f184) .lf)) 185 (Go.Am.fnOf Tryz.f185) (.nd (.nd .lf 186 (Go.Am.fnOf Tryz.f186) .lf) 187 (Go.Am.fnOf Tryz.f187) (.nd .lf 188 (Go.Am.fnOf Tryz.f188) .lf))) 189 (Go.Am.fnOf Tryz.f189) (.nd (.nd (.nd .lf 190 (Go.Am.fnOf Tryz.f190) .lf) 191 (Go.Am.fnOf Tryz.f191) (.nd .lf 192 (Go.Am.fnOf Tryz.f192) .lf)) 193 (Go.Am.fnOf Tryz.f193) (.nd (.nd .lf 194 (Go.Am.fnOf Tryz.f194) .lf) 195 (Go.Am.fnOf Tryz.f195) .lf))) 196 (Go.Am.fnOf Tryz.f196) (.nd (.nd (.nd (.nd .lf 197 (Go.Am.fnOf Tryz.f197) .lf) 198 (Go.Am.fnOf Tryz.f198) (.nd .lf 199 (Go.Am.fnOf Tryz.f199) .lf)) 200 (Go.Am.fnOf Tryz.f200) (.nd (.nd .lf 201 (Go.Am.fnOf Tryz.f201) .lf) 202 (Go.Am.fnOf Tryz.f202) (.nd .lf 203 (Go.Am.fnOf Tryz.f203) .lf))) 204 (Go.Am.fnOf Tryz.f204) (.nd (.nd (.nd .lf 205 (Go.Am.fnOf Tryz.f205) .lf) 206 (Go.Am.fnOf Tryz.f206) (.nd .lf 207 (Go.Am.fnOf Tryz.f207) .lf)) 208 (Go.Am.fnOf Tryz.f208) (.nd (.nd .lf 209 (Go.Am.fnOf Tryz.f209) .lf) 210 (Go.Am.fnOf Tryz.f210) .lf)))) 211 (Go.Am.fnOf Tryz.f211) (.nd (.nd (.nd (.nd (.nd .lf 212 (Go.Am.fnOf Tryz.f212) .lf) 213 (Go.Am.fnOf Tryz.f213) (.nd .lf 214 (Go.Am.fnOf Tryz.f214) .lf)) 215 (Go.Am.fnOf Tryz.f215) (.nd (.nd .lf 218 (Go.Am.fnOf Tryz.f218) .lf) 219 (Go.Am.fnOf Tryz.f219) (.nd .lf 220 (Go.Am.fnOf Tryz.f220) .lf))) 221 (Go.Am.fnOf Tryz.f221) (.nd (.nd (.nd .lf 223 (Go.Am.fnOf Tryz.f223) .lf) 224 (Go.Am.fnOf Tryz.f224) (.nd .lf 226 (Go.Am.fnOf Tryz.f226) .lf)) 227 (Go.Am.fnOf Tryz.f227) (.nd (.nd .lf 228 (Go.Am.fnOf Tryz.f228) .lf) 229 (Go.Am.fnOf Tryz.f229) .lf))) 230 (Go.Am.fnOf Tryz.f230) (.nd (.nd (.nd (.nd .lf 231 (Go.Am.fnOf Tryz.f231) .lf) 232 (Go.Am.fnOf Tryz.f232) (.nd .lf 233 (Go.Am.fnOf Tryz.f233) .lf)) 235 (Go.Am.fnOf Tryz.f235) (.nd (.nd .lf 236 (Go.Am.fnOf Tryz.f236) .lf) 237 (Go.Am.fnOf Tryz.f237) (.nd .lf 238 (Go.Am.fnOf Tryz.f238) .lf))) 239 (Go.Am.fnOf Tryz.f239) (.nd (.nd (.nd .lf 240 (Go.Am.fnOf Tryz.f240) .lf) 258 (Go.Am.fnOf Tryz.f258) (.nd .lf 259 (Go.Am.fnOf Tryz.f259) .lf)) 260 (Go.Am.fnOf Tryz.f260) (.nd (.nd .lf 261 (Go.Am.fnOf Tryz.f261) .lf) 270 (Go.Am.fnOf Tryz.f270) .lf)))))))
def iv (n : Int) : Value := .int .i64 n
def digs : Nat → Nat → List UInt8 → List UInt8
 | 0, _, acc => acc
 | f + 1, n, acc => match Nat.blt n 10 with
   | true => UInt8.ofNat (48 + n) :: acc
   | false => digs f (n / 10) (UInt8.ofNat (48 + n % 10) :: acc)
def itoaL : Int → List UInt8
 | .ofNat n => digs 20 n []
 | .negSucc n => 45 :: digs 20 (n + 1) []
def itoaF : List D → Option D
 | [.val (.int .i64 n)] => match decide (-9223372036854775808 ≤ n) && decide (n ≤ 9223372036854775807) with
   | true => some (.val (.string ⟨(itoaL n).toArray⟩))
   | false => none
 | _ => none
def strsOf : List D → Option (List ByteArray)
 | [] => some []
 | .val (.string s) :: ds => match strsOf ds with
   | some ss => some (s :: ss)
   | none => none
 | _ => none
def joinB (sep : List UInt8) : List (List UInt8) → List UInt8
 | [] => []
 | s :: ss => match ss with
   | [] => s
   | _ :: _ => s ++ (sep ++ joinB sep ss)
def joinL (sep : ByteArray) (ss : List ByteArray) : List UInt8 := joinB sep.data.toList (ss.map (·.data.toList))
def joinF : List D → Option D
 | [.sl n sz cs, .val (.string sep)] => match strsOf cs with
   | some ss => match Nat.beq n ss.length && Nat.beq sz 1 && Nat.ble ss.length 100000 && Nat.ble (joinL sep ss).length 1000000 with
     | true => some (.val (.string ⟨(joinL sep ss).toArray⟩))
     | false => none
   | none => none
 | _ => none
def gl (f1 f2 f3 f4 : Nat) : Nat → List Value
 | 0 => [.func (.func f1) #[] #[], iv (-1000), iv 1000, .func (.func f2) #[] #[], iv (-1000), iv 1000, .func (.func f3) #[] #[], iv (-1000), iv 1000, .func (.func f4) #[] #[], iv (-1000), iv 1000]
 | _ => []
def inlL : List Nat := [123, 170, 142, 125, 171, 192]
def memL (x : Nat) : List Nat → Bool
 | [] => false
 | y :: ys => Nat.beq x y || memL x ys
noncomputable def modeF (f : FuncId) : Am.Mode :=
 match Nat.beq f 148 with
 | true => .spec joinF
 | false => match Nat.beq f 150 with
   | true => .spec itoaF
   | false => match memL f inlL with
     | true => .inl
     | false => .pure
noncomputable def cfg (w0 : World) : Cfg := { P := Tryz.prog, G := { cells := gl 258 259 260 261, blk := fun k => w0.heap[k]? }, GB := 7, ty := tyTr.get, fn := fnTr.get, mode := modeF }
end Go.Proofs.YtmlglimahbjgbaaGreatDoor
namespace Go.Town
open Go
abbrev W (n : Int) : Int := IntKind.i64.wrap n
theorem W_in {n : Int} (h1 : -9223372036854775808 ≤ n) (h2 : n ≤ 9223372036854775807) : W n = n := IntWalk.i64_in n ⟨h1, h2⟩
theorem mul_bound {a b A B : Int} (h1 : -A ≤ a) (h2 : a ≤ A) (h3 : -B ≤ b) (h4 : b ≤ B) : -(A * B) ≤ a * b ∧ a * b ≤ A * B := by
 have hA : 0 ≤ A := by omega
 have hB : 0 ≤ B := by omega
 have key : (a * b).natAbs ≤ (A * B).natAbs := by
  rw [Int.natAbs_mul, Int.natAbs_mul]
  exact Nat.mul_le_mul (by omega) (by omega)
 have : 0 ≤ A * B := Int.mul_nonneg hA hB
 omega
theorem W_mul {a b : Int} (A B : Int) (h1 : -A ≤ a) (h2 : a ≤ A) (h3 : -B ≤ b) (h4 : b ≤ B) (h : A * B ≤ 9223372036854775807) : W (a * b) = a * b := by
 have := mul_bound h1 h2 h3 h4
 exact W_in (by omega) (by omega)
def firstZ : List Int → Int
 | [] => 0
 | e :: es => bif e != 0 then e else firstZ es
def whenZ (b : Bool) (e : Int) : Int := bif b then e else 0
def withinZ (n lo hi : Int) : Int := whenZ (decide (n < lo) || decide (hi < n)) 3
theorem firstZ_nil {l : List Int} : firstZ l = 0 ↔ ∀ e ∈ l, e = 0 := by
 induction l with
 | nil => simp [firstZ]
 | cons e es ih =>
   by_cases h : e = 0
   ·simp [firstZ, h, ih]
   ·have hb : (e != 0) = true := by simp [h]
    simp [firstZ, hb, h]
theorem withinZ_nil {n lo hi : Int} : withinZ n lo hi = 0 ↔ lo ≤ n ∧ n ≤ hi := by
 unfold withinZ whenZ
 by_cases h1 : n < lo <;> by_cases h2 : hi < n <;> simp [h1, h2] <;> omega
def letterN (c : Nat) : Bool := (decide (97 ≤ c) && decide (c ≤ 122)) || (decide (65 ≤ c) && decide (c ≤ 90))
def otherN (c : Nat) : Bool := decide (c = 95) || (decide (48 ≤ c) && decide (c ≤ 57))
def okAt (s : ByteArray) (i : Nat) : Bool := letterN (s.get! i).toNat || (decide (i ≠ 0) && otherN (s.get! i).toNat)
def nameFrom (s : ByteArray) : Nat → Nat → Bool
 | 0, _ => true
 | f + 1, i => okAt s i && nameFrom s f (i + 1)
def isName (s : ByteArray) : Bool := decide (s.size ≠ 0) && decide (s.size ≤ 24) && nameFrom s s.size 0
def chkPoint (x y : Int) : Int := firstZ [withinZ x (-1000) 1000, withinZ y (-1000) 1000]
def chkSpot (x y z : Int) : Int := firstZ [withinZ x (-1000) 1000, withinZ y (-1000) 1000, withinZ z 0 1000]
def chkWall (nm : ByteArray) (ax ay bx by' h e : Int) : Int :=
 firstZ [whenZ (!isName nm) 8, withinZ ax (-1000) 1000, withinZ ay (-1000) 1000, withinZ bx (-1000) 1000, withinZ by' (-1000) 1000, whenZ (ax == bx && (ay == by' && true)) 24, withinZ h 1 1000, withinZ e 0 1000]
def sgnZ (n : Int) : Int := bif decide (0 < n) then 1 else bif decide (n < 0) then -1 else 0
def absZ (n : Int) : Int := if W (0 - n) > n then W (0 - n) else n
def sideZ (ax ay bx by' px py den : Int) : Int := W (W (W (bx - ax) * W (py - W (ay * den))) - W (W (by' - ay) * W (px - W (ax * den))))
def besideZ (sx sy tx ty den px py : Int) : Int := W (W (W (tx - W (sx * den)) * W (py - sy)) - W (W (ty - W (sy * den)) * W (px - sx)))
def meetsZ (p q a b : Int) : Bool :=
 ((decide (0 < p) && decide (q < 0)) || (decide (p < 0) && decide (0 < q))) && !((decide (0 < a) && decide (0 < b)) || (decide (a < 0) && decide (b < 0)))
def denZ (p q den : Int) : Int := W (W (absZ p * den) + absZ q)
def numZ (p q h sz tz den : Int) : Int := W (W (W (h * denZ p q den) - W (absZ q * sz)) - W (absZ p * tz))
def sqN : Nat → Nat → Nat
 | 0, _ => 0
 | f + 1, n => if n = 0 then 0 else
   let r := 2 * sqN f (n / 4)
   if (r + 1) * (r + 1) ≤ n then r + 1 else r
theorem sqN_ok : ∀ (f n : Nat), n < 4 ^ f → sqN f n * sqN f n ≤ n ∧ n < (sqN f n + 1) * (sqN f n + 1)
 | 0, n, h => by simp at h; subst h; decide
 | f + 1, n, h => by
   have ih := sqN_ok f (n / 4) (by rw [Nat.pow_succ] at h; omega)
   unfold sqN
   split
   ·rename_i h0; subst h0; decide
   ·generalize sqN f (n / 4) = r at ih
    obtain ⟨h1, h2⟩ := ih
    have e1 : 2 * r * (2 * r) = 4 * (r * r) := by grind
    have e2 : (2 * r + 1 + 1) * (2 * r + 1 + 1) = 4 * ((r + 1) * (r + 1)) := by grind
    simp only
    split
    ·rename_i h3
     exact ⟨h3, by rw [e2]; omega⟩
    ·rename_i h3
     exact ⟨by rw [e1]; omega, by omega⟩
def lowZ (n : Int) : Int := sqN 32 n.toNat
def highZ (n : Int) : Int := bif lowZ n * lowZ n == n then lowZ n else lowZ n + 1
theorem lowZ_ok {n : Int} (h0 : 0 ≤ n) (h1 : n < 18446744073709551616) : 0 ≤ lowZ n ∧ lowZ n * lowZ n ≤ n ∧ n < (lowZ n + 1) * (lowZ n + 1) := by
 have := sqN_ok 32 n.toNat (by have : (4 : Nat) ^ 32 = 18446744073709551616 := by decide
                               omega)
 unfold lowZ
 generalize sqN 32 n.toNat = r at this
 refine ⟨by omega, ?_, ?_⟩
 ·have := this.1
  have h2 : ((r * r : Nat) : Int) ≤ (n.toNat : Int) := by exact_mod_cast this
  push_cast at h2; omega
 ·have := this.2
  have h2 : (n.toNat : Int) < (((r + 1) * (r + 1) : Nat) : Int) := by exact_mod_cast this
  push_cast at h2; omega
theorem sq_unique {n r t : Int} (h0 : 0 ≤ r) (h1 : r * r ≤ n) (h2 : n < (r + 1) * (r + 1)) (g0 : 0 ≤ t) (g1 : t * t ≤ n) (g2 : n < (t + 1) * (t + 1)) : r = t := by
 have lt_of : ∀ a b : Int, 0 ≤ a → 0 ≤ b → a * a < (b + 1) * (b + 1) → a ≤ b := fun a b ha hb h => by
  by_cases hc : a ≤ b
  ·exact hc
  ·exfalso
   have h3 : b + 1 ≤ a := by omega
   have h4 : (b + 1) * (b + 1) ≤ a * a := Int.mul_le_mul h3 h3 (by omega) ha
   omega
 have a1 := lt_of r t h0 g0 (by omega)
 have a2 := lt_of t r g0 h0 (by omega)
 omega
def gcdZ (a b : Int) : Int := (Nat.gcd a.natAbs b.natAbs : Nat)
end Go.Town
