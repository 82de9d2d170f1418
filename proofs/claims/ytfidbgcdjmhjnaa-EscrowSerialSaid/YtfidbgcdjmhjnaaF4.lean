/- Functions of the program: plain twins and their contracts, printed by program. -/
import Derived.Test.YtfidbgcdjmhjnaaTypes
import Derived.Test.YtfidbgcdjmhjnaaF3
namespace Go.Proofs.Ytfidbgcdjmhjnaa
open Go Go.Bur Go.RowKit
set_option linter.unusedVariables false
set_option linter.unusedSimpArgs false
set_option maxRecDepth 100000
noncomputable section
/-! bursary bursarylaw10.EscrowSerial -/
def law10_EscrowSerial_j1 (n : Nat) : Unit → Option Bool := fun _ =>
    some true
def law10_EscrowSerial_j4 (n : Nat) (r2 : Int × (List law10_Deed) × Int × Int × (List Pending) × Int × Int × Int × (List Int) × (List Int) × (List Int) × (List Int) × (List Int) × (List Int) × (List Int) × (List Int) × (List Int) × (List Int) × (List Int) × (List Int) × (List Int) × (List Int) × (List Int) × Unit → Option Bool) : Int × (List law10_Deed) × Int × Int × (List Pending) × Int × Int × Int × (List Int) × (List Int) × (List Int) × (List Int) × (List Int) × (List Int) × (List Int) × (List Int) × (List Int) × (List Int) × (List Int) × (List Int) × (List Int) × (List Int) × (List Int) × Unit → Option Bool := fun ⟨v57, v58, v59, v60, v61, v62, v63, v64, v65, v66, v67, v68, v69, v70, v71, v72, v73, v74, v75, v76, v77, v78, v79, _⟩ =>
    r2 (v57, v58, v59, (IntKind.wrap .i64 (v60 + 1)), v61, v62, v63, v64, v65, v66, v67, v68, v69, v70, v71, v72, v73, v74, v75, v76, v77, v78, v79, ())
def law10_EscrowSerial_j5 (n : Nat) (j4 : Int × (List law10_Deed) × Int × Int × (List Pending) × Int × Int × Int × (List Int) × (List Int) × (List Int) × (List Int) × (List Int) × (List Int) × (List Int) × (List Int) × (List Int) × (List Int) × (List Int) × (List Int) × (List Int) × (List Int) × (List Int) × Unit → Option Bool) : Int × (List law10_Deed) × Int × Int × (List Pending) × Int × Int × Int × (List Int) × (List Int) × (List Int) × (List Int) × (List Int) × (List Int) × (List Int) × (List Int) × (List Int) × (List Int) × (List Int) × (List Int) × (List Int) × (List Int) × (List Int) × Unit → Option Bool := fun ⟨v82, v83, v84, v85, v86, v87, v88, v89, v90, v91, v92, v93, v94, v95, v96, v97, v98, v99, v100, v101, v102, v103, v104, _⟩ =>
    j4 (v82, v83, v84, v85, v86, v87, v88, v89, v90, v91, v92, v93, v94, v95, v96, v97, v98, v99, v100, v101, v102, v103, v104, ())
def law10_EscrowSerial_j6 (n : Nat) (j4 : Int × (List law10_Deed) × Int × Int × (List Pending) × Int × Int × Int × (List Int) × (List Int) × (List Int) × (List Int) × (List Int) × (List Int) × (List Int) × (List Int) × (List Int) × (List Int) × (List Int) × (List Int) × (List Int) × (List Int) × (List Int) × Unit → Option Bool) : Int × (List law10_Deed) × Int × Int × (List Pending) × Int × Int × Int × (List Int) × (List Int) × (List Int) × (List Int) × (List Int) × (List Int) × (List Int) × (List Int) × (List Int) × (List Int) × (List Int) × (List Int) × (List Int) × (List Int) × (List Int) × Unit → Option Bool := fun ⟨v109, v110, v111, v112, v113, v114, v115, v116, v117, v118, v119, v120, v121, v122, v123, v124, v125, v126, v127, v128, v129, v130, v131, _⟩ =>
    j4 (v109, v110, v111, v112, v113, v114, v115, v116, v117, v118, v119, v120, v121, v122, v123, v124, v125, v126, v127, v128, v129, v130, v131, ())
def law10_EscrowSerial_j7 (n : Nat) (j4 : Int × (List law10_Deed) × Int × Int × (List Pending) × Int × Int × Int × (List Int) × (List Int) × (List Int) × (List Int) × (List Int) × (List Int) × (List Int) × (List Int) × (List Int) × (List Int) × (List Int) × (List Int) × (List Int) × (List Int) × (List Int) × Unit → Option Bool) : Int × (List law10_Deed) × Int × Int × (List Pending) × Int × Int × Int × (List Int) × (List Int) × (List Int) × (List Int) × (List Int) × (List Int) × (List Int) × (List Int) × (List Int) × (List Int) × (List Int) × (List Int) × (List Int) × (List Int) × (List Int) × Unit → Option Bool := fun ⟨v136, v137, v138, v139, v140, v141, v142, v143, v144, v145, v146, v147, v148, v149, v150, v151, v152, v153, v154, v155, v156, v157, v158, _⟩ =>
    j4 (v136, v137, v138, v139, v140, v141, v142, v143, v144, v145, v146, v147, v148, v149, v150, v151, v152, v153, v154, v155, v156, v157, v158, ())
def law10_EscrowSerial_j8 (n : Nat) (j4 : Int × (List law10_Deed) × Int × Int × (List Pending) × Int × Int × Int × (List Int) × (List Int) × (List Int) × (List Int) × (List Int) × (List Int) × (List Int) × (List Int) × (List Int) × (List Int) × (List Int) × (List Int) × (List Int) × (List Int) × (List Int) × Unit → Option Bool) : Int × (List law10_Deed) × Int × Int × (List Pending) × Int × Int × Int × (List Int) × (List Int) × (List Int) × (List Int) × (List Int) × (List Int) × (List Int) × (List Int) × (List Int) × (List Int) × (List Int) × (List Int) × (List Int) × (List Int) × (List Int) × Unit → Option Bool := fun ⟨v163, v164, v165, v166, v167, v168, v169, v170, v171, v172, v173, v174, v175, v176, v177, v178, v179, v180, v181, v182, v183, v184, v185, _⟩ =>
    j4 (v163, v164, v165, v166, v167, v168, v169, v170, v171, v172, v173, v174, v175, v176, v177, v178, v179, v180, v181, v182, v183, v184, v185, ())
def law10_EscrowSerial_j9 (n : Nat) (j4 : Int × (List law10_Deed) × Int × Int × (List Pending) × Int × Int × Int × (List Int) × (List Int) × (List Int) × (List Int) × (List Int) × (List Int) × (List Int) × (List Int) × (List Int) × (List Int) × (List Int) × (List Int) × (List Int) × (List Int) × (List Int) × Unit → Option Bool) : Int × (List law10_Deed) × Int × Int × (List Pending) × Int × Int × Int × (List Int) × (List Int) × (List Int) × (List Int) × (List Int) × (List Int) × (List Int) × (List Int) × (List Int) × (List Int) × (List Int) × (List Int) × (List Int) × (List Int) × (List Int) × Unit → Option Bool := fun ⟨v190, v191, v192, v193, v194, v195, v196, v197, v198, v199, v200, v201, v202, v203, v204, v205, v206, v207, v208, v209, v210, v211, v212, _⟩ =>
    j4 (v190, v191, v192, v193, v194, v195, v196, v197, v198, v199, v200, v201, v202, v203, v204, v205, v206, v207, v208, v209, v210, v211, v212, ())
def law10_EscrowSerial_j10 (n : Nat) (j4 : Int × (List law10_Deed) × Int × Int × (List Pending) × Int × Int × Int × (List Int) × (List Int) × (List Int) × (List Int) × (List Int) × (List Int) × (List Int) × (List Int) × (List Int) × (List Int) × (List Int) × (List Int) × (List Int) × (List Int) × (List Int) × Unit → Option Bool) : Int × (List law10_Deed) × Int × Int × (List Pending) × Int × Int × Int × (List Int) × (List Int) × (List Int) × (List Int) × (List Int) × (List Int) × (List Int) × (List Int) × (List Int) × (List Int) × (List Int) × (List Int) × (List Int) × (List Int) × (List Int) × Unit → Option Bool := fun ⟨v215, v216, v217, v218, v219, v220, v221, v222, v223, v224, v225, v226, v227, v228, v229, v230, v231, v232, v233, v234, v235, v236, v237, _⟩ =>
    j4 (v215, v216, v217, v218, v219, v220, v221, v222, v223, v224, v225, v226, v227, v228, v229, v230, v231, v232, v233, v234, v235, v236, v237, ())
def law10_EscrowSerial_j11 (n : Nat) (j10 : Int × (List law10_Deed) × Int × Int × (List Pending) × Int × Int × Int × (List Int) × (List Int) × (List Int) × (List Int) × (List Int) × (List Int) × (List Int) × (List Int) × (List Int) × (List Int) × (List Int) × (List Int) × (List Int) × (List Int) × (List Int) × Unit → Option Bool) : Int × (List law10_Deed) × Int × Int × (List Pending) × Int × Int × Int × (List Int) × (List Int) × (List Int) × (List Int) × (List Int) × (List Int) × (List Int) × (List Int) × (List Int) × (List Int) × (List Int) × (List Int) × (List Int) × (List Int) × (List Int) × Unit → Option Bool := fun ⟨v238, v239, v240, v241, v242, v243, v244, v245, v246, v247, v248, v249, v250, v251, v252, v253, v254, v255, v256, v257, v258, v259, v260, _⟩ =>
    j10 (v238, v239, v240, v241, v242, v243, v244, v245, v246, v247, v248, v249, v250, v251, v252, v253, v254, v255, v256, v257, v258, v259, v260, ())
def law10_EscrowSerial_j12 (n : Nat) (j10 : Int × (List law10_Deed) × Int × Int × (List Pending) × Int × Int × Int × (List Int) × (List Int) × (List Int) × (List Int) × (List Int) × (List Int) × (List Int) × (List Int) × (List Int) × (List Int) × (List Int) × (List Int) × (List Int) × (List Int) × (List Int) × Unit → Option Bool) : Int × (List law10_Deed) × Int × Int × (List Pending) × Int × Int × Int × (List Int) × (List Int) × (List Int) × (List Int) × (List Int) × (List Int) × (List Int) × (List Int) × (List Int) × (List Int) × (List Int) × (List Int) × (List Int) × (List Int) × (List Int) × Unit → Option Bool := fun ⟨v265, v266, v267, v268, v269, v270, v271, v272, v273, v274, v275, v276, v277, v278, v279, v280, v281, v282, v283, v284, v285, v286, v287, _⟩ =>
    j10 (v265, v266, v267, v268, v269, v270, v271, v272, v273, v274, v275, v276, v277, v278, v279, v280, v281, v282, v283, v284, v285, v286, v287, ())
def law10_EscrowSerial_j13 (n : Nat) (j10 : Int × (List law10_Deed) × Int × Int × (List Pending) × Int × Int × Int × (List Int) × (List Int) × (List Int) × (List Int) × (List Int) × (List Int) × (List Int) × (List Int) × (List Int) × (List Int) × (List Int) × (List Int) × (List Int) × (List Int) × (List Int) × Unit → Option Bool) : Int × (List law10_Deed) × Int × Int × (List Pending) × Int × Int × Int × (List Int) × (List Int) × (List Int) × (List Int) × (List Int) × (List Int) × (List Int) × (List Int) × (List Int) × (List Int) × (List Int) × (List Int) × (List Int) × (List Int) × (List Int) × Unit → Option Bool := fun ⟨v292, v293, v294, v295, v296, v297, v298, v299, v300, v301, v302, v303, v304, v305, v306, v307, v308, v309, v310, v311, v312, v313, v314, _⟩ =>
    j10 (v292, v293, v294, v295, v296, v297, v298, v299, v300, v301, v302, v303, v304, v305, v306, v307, v308, v309, v310, v311, v312, v313, v314, ())
def law10_EscrowSerial_j14 (n : Nat) (j10 : Int × (List law10_Deed) × Int × Int × (List Pending) × Int × Int × Int × (List Int) × (List Int) × (List Int) × (List Int) × (List Int) × (List Int) × (List Int) × (List Int) × (List Int) × (List Int) × (List Int) × (List Int) × (List Int) × (List Int) × (List Int) × Unit → Option Bool) : Int × (List law10_Deed) × Int × Int × (List Pending) × Int × Int × Int × (List Int) × (List Int) × (List Int) × (List Int) × (List Int) × (List Int) × (List Int) × (List Int) × (List Int) × (List Int) × (List Int) × (List Int) × (List Int) × (List Int) × (List Int) × Unit → Option Bool := fun ⟨v319, v320, v321, v322, v323, v324, v325, v326, v327, v328, v329, v330, v331, v332, v333, v334, v335, v336, v337, v338, v339, v340, v341, _⟩ =>
    j10 (v319, v320, v321, v322, v323, v324, v325, v326, v327, v328, v329, v330, v331, v332, v333, v334, v335, v336, v337, v338, v339, v340, v341, ())
def law10_EscrowSerial_j15 (n : Nat) (j10 : Int × (List law10_Deed) × Int × Int × (List Pending) × Int × Int × Int × (List Int) × (List Int) × (List Int) × (List Int) × (List Int) × (List Int) × (List Int) × (List Int) × (List Int) × (List Int) × (List Int) × (List Int) × (List Int) × (List Int) × (List Int) × Unit → Option Bool) : Int × (List law10_Deed) × Int × Int × (List Pending) × Int × Int × Int × (List Int) × (List Int) × (List Int) × (List Int) × (List Int) × (List Int) × (List Int) × (List Int) × (List Int) × (List Int) × (List Int) × (List Int) × (List Int) × (List Int) × (List Int) × Unit → Option Bool := fun ⟨v346, v347, v348, v349, v350, v351, v352, v353, v354, v355, v356, v357, v358, v359, v360, v361, v362, v363, v364, v365, v366, v367, v368, _⟩ =>
    j10 (v346, v347, v348, v349, v350, v351, v352, v353, v354, v355, v356, v357, v358, v359, v360, v361, v362, v363, v364, v365, v366, v367, v368, ())
def law10_EscrowSerial_j16 (n : Nat) (j10 : Int × (List law10_Deed) × Int × Int × (List Pending) × Int × Int × Int × (List Int) × (List Int) × (List Int) × (List Int) × (List Int) × (List Int) × (List Int) × (List Int) × (List Int) × (List Int) × (List Int) × (List Int) × (List Int) × (List Int) × (List Int) × Unit → Option Bool) : Int × (List law10_Deed) × Int × Int × (List Pending) × Int × Int × Int × (List Int) × (List Int) × (List Int) × (List Int) × (List Int) × (List Int) × (List Int) × (List Int) × (List Int) × (List Int) × (List Int) × (List Int) × (List Int) × (List Int) × (List Int) × Unit → Option Bool := fun ⟨v373, v374, v375, v376, v377, v378, v379, v380, v381, v382, v383, v384, v385, v386, v387, v388, v389, v390, v391, v392, v393, v394, v395, _⟩ =>
    j10 (v373, v374, v375, v376, v377, v378, v379, v380, v381, v382, v383, v384, v385, v386, v387, v388, v389, v390, v391, v392, v393, v394, v395, ())
def law10_EscrowSerial_l17 (n : Nat) (j16 : Int × (List law10_Deed) × Int × Int × (List Pending) × Int × Int × Int × (List Int) × (List Int) × (List Int) × (List Int) × (List Int) × (List Int) × (List Int) × (List Int) × (List Int) × (List Int) × (List Int) × (List Int) × (List Int) × (List Int) × (List Int) × Unit → Option Bool) : Nat → Int × Int × (List law10_Deed) × Int × Int × Int × Int × (List Pending) × Int × Int × Int × (List Int) × (List Int) × (List Int) × (List Int) × (List Int) × (List Int) × (List Int) × (List Int) × (List Int) × (List Int) × (List Int) × (List Int) × (List Int) × (List Int) × (List Int) × Unit → Option Bool := loopF fun r17 ⟨v396, v397, v398, v399, v400, v401, v402, v403, v404, v405, v406, v407, v408, v409, v410, v411, v412, v413, v414, v415, v416, v417, v418, v419, v420, v421, _⟩ =>
    cond (decide (v402 < v401))
      ((idx v407 v402).bind fun x422 =>
      (idx v407 v402).bind fun x423 =>
      jn (fun (b424 : Bool) =>
          cond b424
            (some false)
            (r17 ((IntKind.wrap .i64 (v396 + x423)), v397, v398, v399, v400, v401, (IntKind.wrap .i64 (v402 + 1)), v403, v404, v405, v406, v407, v408, v409, v410, v411, v412, v413, v414, v415, v416, v417, v418, v419, v420, v421, ()))) fun k425 =>
      cond (decide ((IntKind.wrap .i64 (v396 + x423)) < v404))
        (k425 true)
        (k425 (decide ((IntKind.wrap .i64 (v396 + x423)) > v405))))
      (cond (decide (v397 = 0))
        ((law10_book_over n 0 true v403 v404 v405 v406 v408 v409 v410 v411 v412 v413 v414 v415 v416 v417).bind fun y426 =>
        jn (fun (b427 : Bool) =>
            cond b427
              (some false)
              (j16 (v396, v398, v399, v400, y426.2.1, y426.2.2.1, y426.2.2.2.1, y426.2.2.2.2.1, y426.2.2.2.2.2.1, y426.2.2.2.2.2.2.1, y426.2.2.2.2.2.2.2.1, y426.2.2.2.2.2.2.2.2.1, y426.2.2.2.2.2.2.2.2.2.1, y426.2.2.2.2.2.2.2.2.2.2.1, y426.2.2.2.2.2.2.2.2.2.2.2.1, y426.2.2.2.2.2.2.2.2.2.2.2.2.1, y426.2.2.2.2.2.2.2.2.2.2.2.2.2.1, y426.2.2.2.2.2.2.2.2.2.2.2.2.2.2, ([] : List Int), v418, v419, v420, v421, ()))) fun k428 =>
        cond (!y426.1)
          (k428 true)
          (k428 (y426.2.2.2.2.1 != v396)))
        (cond (decide (v397 = 1))
          ((law10_book_over n 1 true v403 v404 v405 v406 v408 v409 v410 v411 v412 v413 v414 v415 v416 v417).bind fun y429 =>
          jn (fun (b430 : Bool) =>
              cond b430
                (some false)
                (j16 (v396, v398, v399, v400, y429.2.1, y429.2.2.1, y429.2.2.2.1, y429.2.2.2.2.1, y429.2.2.2.2.2.1, y429.2.2.2.2.2.2.1, y429.2.2.2.2.2.2.2.1, y429.2.2.2.2.2.2.2.2.1, y429.2.2.2.2.2.2.2.2.2.1, y429.2.2.2.2.2.2.2.2.2.2.1, y429.2.2.2.2.2.2.2.2.2.2.2.1, y429.2.2.2.2.2.2.2.2.2.2.2.2.1, y429.2.2.2.2.2.2.2.2.2.2.2.2.2.1, y429.2.2.2.2.2.2.2.2.2.2.2.2.2.2, v407, ([] : List Int), v419, v420, v421, ()))) fun k431 =>
          cond (!y429.1)
            (k431 true)
            (k431 (y429.2.2.2.2.1 != v396)))
          (cond (decide (v397 = 2))
            ((law10_book_over n 2 true v403 v404 v405 v406 v408 v409 v410 v411 v412 v413 v414 v415 v416 v417).bind fun y432 =>
            jn (fun (b433 : Bool) =>
                cond b433
                  (some false)
                  (j16 (v396, v398, v399, v400, y432.2.1, y432.2.2.1, y432.2.2.2.1, y432.2.2.2.2.1, y432.2.2.2.2.2.1, y432.2.2.2.2.2.2.1, y432.2.2.2.2.2.2.2.1, y432.2.2.2.2.2.2.2.2.1, y432.2.2.2.2.2.2.2.2.2.1, y432.2.2.2.2.2.2.2.2.2.2.1, y432.2.2.2.2.2.2.2.2.2.2.2.1, y432.2.2.2.2.2.2.2.2.2.2.2.2.1, y432.2.2.2.2.2.2.2.2.2.2.2.2.2.1, y432.2.2.2.2.2.2.2.2.2.2.2.2.2.2, v407, v418, ([] : List Int), v420, v421, ()))) fun k434 =>
            cond (!y432.1)
              (k434 true)
              (k434 (y432.2.2.2.2.1 != v396)))
            (cond (decide (v397 = 3))
              ((law10_book_over n 3 true v403 v404 v405 v406 v408 v409 v410 v411 v412 v413 v414 v415 v416 v417).bind fun y435 =>
              jn (fun (b436 : Bool) =>
                  cond b436
                    (some false)
                    (j16 (v396, v398, v399, v400, y435.2.1, y435.2.2.1, y435.2.2.2.1, y435.2.2.2.2.1, y435.2.2.2.2.2.1, y435.2.2.2.2.2.2.1, y435.2.2.2.2.2.2.2.1, y435.2.2.2.2.2.2.2.2.1, y435.2.2.2.2.2.2.2.2.2.1, y435.2.2.2.2.2.2.2.2.2.2.1, y435.2.2.2.2.2.2.2.2.2.2.2.1, y435.2.2.2.2.2.2.2.2.2.2.2.2.1, y435.2.2.2.2.2.2.2.2.2.2.2.2.2.1, y435.2.2.2.2.2.2.2.2.2.2.2.2.2.2, v407, v418, v419, ([] : List Int), v421, ()))) fun k437 =>
              cond (!y435.1)
                (k437 true)
                (k437 (y435.2.2.2.2.1 != v396)))
              (cond (decide (v397 = 4))
                ((law10_book_over n 4 true v403 v404 v405 v406 v408 v409 v410 v411 v412 v413 v414 v415 v416 v417).bind fun y438 =>
                jn (fun (b439 : Bool) =>
                    cond b439
                      (some false)
                      (j16 (v396, v398, v399, v400, y438.2.1, y438.2.2.1, y438.2.2.2.1, y438.2.2.2.2.1, y438.2.2.2.2.2.1, y438.2.2.2.2.2.2.1, y438.2.2.2.2.2.2.2.1, y438.2.2.2.2.2.2.2.2.1, y438.2.2.2.2.2.2.2.2.2.1, y438.2.2.2.2.2.2.2.2.2.2.1, y438.2.2.2.2.2.2.2.2.2.2.2.1, y438.2.2.2.2.2.2.2.2.2.2.2.2.1, y438.2.2.2.2.2.2.2.2.2.2.2.2.2.1, y438.2.2.2.2.2.2.2.2.2.2.2.2.2.2, v407, v418, v419, v420, ([] : List Int), ()))) fun k440 =>
                cond (!y438.1)
                  (k440 true)
                  (k440 (y438.2.2.2.2.1 != v396)))
                (none))))))
def law10_EscrowSerial_l18 (n : Nat) (j16 : Int × (List law10_Deed) × Int × Int × (List Pending) × Int × Int × Int × (List Int) × (List Int) × (List Int) × (List Int) × (List Int) × (List Int) × (List Int) × (List Int) × (List Int) × (List Int) × (List Int) × (List Int) × (List Int) × (List Int) × (List Int) × Unit → Option Bool) : Nat → Int × Int × (List law10_Deed) × Int × Int × Int × Int × (List Pending) × Int × Int × Int × (List Int) × (List Int) × (List Int) × (List Int) × (List Int) × (List Int) × (List Int) × (List Int) × (List Int) × (List Int) × (List Int) × (List Int) × (List Int) × (List Int) × (List Int) × Unit → Option Bool := loopF fun r18 ⟨v441, v442, v443, v444, v445, v446, v447, v448, v449, v450, v451, v452, v453, v454, v455, v456, v457, v458, v459, v460, v461, v462, v463, v464, v465, v466, _⟩ =>
    cond (decide (v447 < v446))
      ((idx v452 v447).bind fun x467 =>
      (idx v452 v447).bind fun x468 =>
      jn (fun (b469 : Bool) =>
          cond b469
            (some false)
            (r18 ((IntKind.wrap .i64 (v441 + x468)), v442, v443, v444, v445, v446, (IntKind.wrap .i64 (v447 + 1)), v448, v449, v450, v451, v452, v453, v454, v455, v456, v457, v458, v459, v460, v461, v462, v463, v464, v465, v466, ()))) fun k470 =>
      cond (decide ((IntKind.wrap .i64 (v441 + x468)) < v449))
        (k470 true)
        (k470 (decide ((IntKind.wrap .i64 (v441 + x468)) > v450))))
      (cond (decide (v442 = 0))
        ((law10_book_over n 0 true v448 v449 v450 v451 v453 v454 v455 v456 v457 v458 v459 v460 v461 v462).bind fun y471 =>
        jn (fun (b472 : Bool) =>
            cond b472
              (some false)
              (j16 (v441, v443, v444, v445, y471.2.1, y471.2.2.1, y471.2.2.2.1, y471.2.2.2.2.1, y471.2.2.2.2.2.1, y471.2.2.2.2.2.2.1, y471.2.2.2.2.2.2.2.1, y471.2.2.2.2.2.2.2.2.1, y471.2.2.2.2.2.2.2.2.2.1, y471.2.2.2.2.2.2.2.2.2.2.1, y471.2.2.2.2.2.2.2.2.2.2.2.1, y471.2.2.2.2.2.2.2.2.2.2.2.2.1, y471.2.2.2.2.2.2.2.2.2.2.2.2.2.1, y471.2.2.2.2.2.2.2.2.2.2.2.2.2.2, ([] : List Int), v452, v464, v465, v466, ()))) fun k473 =>
        cond (!y471.1)
          (k473 true)
          (k473 (y471.2.2.2.2.1 != v441)))
        (cond (decide (v442 = 1))
          ((law10_book_over n 1 true v448 v449 v450 v451 v453 v454 v455 v456 v457 v458 v459 v460 v461 v462).bind fun y474 =>
          jn (fun (b475 : Bool) =>
              cond b475
                (some false)
                (j16 (v441, v443, v444, v445, y474.2.1, y474.2.2.1, y474.2.2.2.1, y474.2.2.2.2.1, y474.2.2.2.2.2.1, y474.2.2.2.2.2.2.1, y474.2.2.2.2.2.2.2.1, y474.2.2.2.2.2.2.2.2.1, y474.2.2.2.2.2.2.2.2.2.1, y474.2.2.2.2.2.2.2.2.2.2.1, y474.2.2.2.2.2.2.2.2.2.2.2.1, y474.2.2.2.2.2.2.2.2.2.2.2.2.1, y474.2.2.2.2.2.2.2.2.2.2.2.2.2.1, y474.2.2.2.2.2.2.2.2.2.2.2.2.2.2, v463, ([] : List Int), v464, v465, v466, ()))) fun k476 =>
          cond (!y474.1)
            (k476 true)
            (k476 (y474.2.2.2.2.1 != v441)))
          (cond (decide (v442 = 2))
            ((law10_book_over n 2 true v448 v449 v450 v451 v453 v454 v455 v456 v457 v458 v459 v460 v461 v462).bind fun y477 =>
            jn (fun (b478 : Bool) =>
                cond b478
                  (some false)
                  (j16 (v441, v443, v444, v445, y477.2.1, y477.2.2.1, y477.2.2.2.1, y477.2.2.2.2.1, y477.2.2.2.2.2.1, y477.2.2.2.2.2.2.1, y477.2.2.2.2.2.2.2.1, y477.2.2.2.2.2.2.2.2.1, y477.2.2.2.2.2.2.2.2.2.1, y477.2.2.2.2.2.2.2.2.2.2.1, y477.2.2.2.2.2.2.2.2.2.2.2.1, y477.2.2.2.2.2.2.2.2.2.2.2.2.1, y477.2.2.2.2.2.2.2.2.2.2.2.2.2.1, y477.2.2.2.2.2.2.2.2.2.2.2.2.2.2, v463, v452, ([] : List Int), v465, v466, ()))) fun k479 =>
            cond (!y477.1)
              (k479 true)
              (k479 (y477.2.2.2.2.1 != v441)))
            (cond (decide (v442 = 3))
              ((law10_book_over n 3 true v448 v449 v450 v451 v453 v454 v455 v456 v457 v458 v459 v460 v461 v462).bind fun y480 =>
              jn (fun (b481 : Bool) =>
                  cond b481
                    (some false)
                    (j16 (v441, v443, v444, v445, y480.2.1, y480.2.2.1, y480.2.2.2.1, y480.2.2.2.2.1, y480.2.2.2.2.2.1, y480.2.2.2.2.2.2.1, y480.2.2.2.2.2.2.2.1, y480.2.2.2.2.2.2.2.2.1, y480.2.2.2.2.2.2.2.2.2.1, y480.2.2.2.2.2.2.2.2.2.2.1, y480.2.2.2.2.2.2.2.2.2.2.2.1, y480.2.2.2.2.2.2.2.2.2.2.2.2.1, y480.2.2.2.2.2.2.2.2.2.2.2.2.2.1, y480.2.2.2.2.2.2.2.2.2.2.2.2.2.2, v463, v452, v464, ([] : List Int), v466, ()))) fun k482 =>
              cond (!y480.1)
                (k482 true)
                (k482 (y480.2.2.2.2.1 != v441)))
              (cond (decide (v442 = 4))
                ((law10_book_over n 4 true v448 v449 v450 v451 v453 v454 v455 v456 v457 v458 v459 v460 v461 v462).bind fun y483 =>
                jn (fun (b484 : Bool) =>
                    cond b484
                      (some false)
                      (j16 (v441, v443, v444, v445, y483.2.1, y483.2.2.1, y483.2.2.2.1, y483.2.2.2.2.1, y483.2.2.2.2.2.1, y483.2.2.2.2.2.2.1, y483.2.2.2.2.2.2.2.1, y483.2.2.2.2.2.2.2.2.1, y483.2.2.2.2.2.2.2.2.2.1, y483.2.2.2.2.2.2.2.2.2.2.1, y483.2.2.2.2.2.2.2.2.2.2.2.1, y483.2.2.2.2.2.2.2.2.2.2.2.2.1, y483.2.2.2.2.2.2.2.2.2.2.2.2.2.1, y483.2.2.2.2.2.2.2.2.2.2.2.2.2.2, v463, v452, v464, v465, ([] : List Int), ()))) fun k485 =>
                cond (!y483.1)
                  (k485 true)
                  (k485 (y483.2.2.2.2.1 != v441)))
                (none))))))
def law10_EscrowSerial_l19 (n : Nat) (j16 : Int × (List law10_Deed) × Int × Int × (List Pending) × Int × Int × Int × (List Int) × (List Int) × (List Int) × (List Int) × (List Int) × (List Int) × (List Int) × (List Int) × (List Int) × (List Int) × (List Int) × (List Int) × (List Int) × (List Int) × (List Int) × Unit → Option Bool) : Nat → Int × Int × (List law10_Deed) × Int × Int × Int × Int × (List Pending) × Int × Int × Int × (List Int) × (List Int) × (List Int) × (List Int) × (List Int) × (List Int) × (List Int) × (List Int) × (List Int) × (List Int) × (List Int) × (List Int) × (List Int) × (List Int) × (List Int) × Unit → Option Bool := loopF fun r19 ⟨v486, v487, v488, v489, v490, v491, v492, v493, v494, v495, v496, v497, v498, v499, v500, v501, v502, v503, v504, v505, v506, v507, v508, v509, v510, v511, _⟩ =>
    cond (decide (v492 < v491))
      ((idx v497 v492).bind fun x512 =>
      (idx v497 v492).bind fun x513 =>
      jn (fun (b514 : Bool) =>
          cond b514
            (some false)
            (r19 ((IntKind.wrap .i64 (v486 + x513)), v487, v488, v489, v490, v491, (IntKind.wrap .i64 (v492 + 1)), v493, v494, v495, v496, v497, v498, v499, v500, v501, v502, v503, v504, v505, v506, v507, v508, v509, v510, v511, ()))) fun k515 =>
      cond (decide ((IntKind.wrap .i64 (v486 + x513)) < v494))
        (k515 true)
        (k515 (decide ((IntKind.wrap .i64 (v486 + x513)) > v495))))
      (cond (decide (v487 = 0))
        ((law10_book_over n 0 true v493 v494 v495 v496 v498 v499 v500 v501 v502 v503 v504 v505 v506 v507).bind fun y516 =>
        jn (fun (b517 : Bool) =>
            cond b517
              (some false)
              (j16 (v486, v488, v489, v490, y516.2.1, y516.2.2.1, y516.2.2.2.1, y516.2.2.2.2.1, y516.2.2.2.2.2.1, y516.2.2.2.2.2.2.1, y516.2.2.2.2.2.2.2.1, y516.2.2.2.2.2.2.2.2.1, y516.2.2.2.2.2.2.2.2.2.1, y516.2.2.2.2.2.2.2.2.2.2.1, y516.2.2.2.2.2.2.2.2.2.2.2.1, y516.2.2.2.2.2.2.2.2.2.2.2.2.1, y516.2.2.2.2.2.2.2.2.2.2.2.2.2.1, y516.2.2.2.2.2.2.2.2.2.2.2.2.2.2, ([] : List Int), v509, v497, v510, v511, ()))) fun k518 =>
        cond (!y516.1)
          (k518 true)
          (k518 (y516.2.2.2.2.1 != v486)))
        (cond (decide (v487 = 1))
          ((law10_book_over n 1 true v493 v494 v495 v496 v498 v499 v500 v501 v502 v503 v504 v505 v506 v507).bind fun y519 =>
          jn (fun (b520 : Bool) =>
              cond b520
                (some false)
                (j16 (v486, v488, v489, v490, y519.2.1, y519.2.2.1, y519.2.2.2.1, y519.2.2.2.2.1, y519.2.2.2.2.2.1, y519.2.2.2.2.2.2.1, y519.2.2.2.2.2.2.2.1, y519.2.2.2.2.2.2.2.2.1, y519.2.2.2.2.2.2.2.2.2.1, y519.2.2.2.2.2.2.2.2.2.2.1, y519.2.2.2.2.2.2.2.2.2.2.2.1, y519.2.2.2.2.2.2.2.2.2.2.2.2.1, y519.2.2.2.2.2.2.2.2.2.2.2.2.2.1, y519.2.2.2.2.2.2.2.2.2.2.2.2.2.2, v508, ([] : List Int), v497, v510, v511, ()))) fun k521 =>
          cond (!y519.1)
            (k521 true)
            (k521 (y519.2.2.2.2.1 != v486)))
          (cond (decide (v487 = 2))
            ((law10_book_over n 2 true v493 v494 v495 v496 v498 v499 v500 v501 v502 v503 v504 v505 v506 v507).bind fun y522 =>
            jn (fun (b523 : Bool) =>
                cond b523
                  (some false)
                  (j16 (v486, v488, v489, v490, y522.2.1, y522.2.2.1, y522.2.2.2.1, y522.2.2.2.2.1, y522.2.2.2.2.2.1, y522.2.2.2.2.2.2.1, y522.2.2.2.2.2.2.2.1, y522.2.2.2.2.2.2.2.2.1, y522.2.2.2.2.2.2.2.2.2.1, y522.2.2.2.2.2.2.2.2.2.2.1, y522.2.2.2.2.2.2.2.2.2.2.2.1, y522.2.2.2.2.2.2.2.2.2.2.2.2.1, y522.2.2.2.2.2.2.2.2.2.2.2.2.2.1, y522.2.2.2.2.2.2.2.2.2.2.2.2.2.2, v508, v509, ([] : List Int), v510, v511, ()))) fun k524 =>
            cond (!y522.1)
              (k524 true)
              (k524 (y522.2.2.2.2.1 != v486)))
            (cond (decide (v487 = 3))
              ((law10_book_over n 3 true v493 v494 v495 v496 v498 v499 v500 v501 v502 v503 v504 v505 v506 v507).bind fun y525 =>
              jn (fun (b526 : Bool) =>
                  cond b526
                    (some false)
                    (j16 (v486, v488, v489, v490, y525.2.1, y525.2.2.1, y525.2.2.2.1, y525.2.2.2.2.1, y525.2.2.2.2.2.1, y525.2.2.2.2.2.2.1, y525.2.2.2.2.2.2.2.1, y525.2.2.2.2.2.2.2.2.1, y525.2.2.2.2.2.2.2.2.2.1, y525.2.2.2.2.2.2.2.2.2.2.1, y525.2.2.2.2.2.2.2.2.2.2.2.1, y525.2.2.2.2.2.2.2.2.2.2.2.2.1, y525.2.2.2.2.2.2.2.2.2.2.2.2.2.1, y525.2.2.2.2.2.2.2.2.2.2.2.2.2.2, v508, v509, v497, ([] : List Int), v511, ()))) fun k527 =>
              cond (!y525.1)
                (k527 true)
                (k527 (y525.2.2.2.2.1 != v486)))
              (cond (decide (v487 = 4))
                ((law10_book_over n 4 true v493 v494 v495 v496 v498 v499 v500 v501 v502 v503 v504 v505 v506 v507).bind fun y528 =>
                jn (fun (b529 : Bool) =>
                    cond b529
                      (some false)
                      (j16 (v486, v488, v489, v490, y528.2.1, y528.2.2.1, y528.2.2.2.1, y528.2.2.2.2.1, y528.2.2.2.2.2.1, y528.2.2.2.2.2.2.1, y528.2.2.2.2.2.2.2.1, y528.2.2.2.2.2.2.2.2.1, y528.2.2.2.2.2.2.2.2.2.1, y528.2.2.2.2.2.2.2.2.2.2.1, y528.2.2.2.2.2.2.2.2.2.2.2.1, y528.2.2.2.2.2.2.2.2.2.2.2.2.1, y528.2.2.2.2.2.2.2.2.2.2.2.2.2.1, y528.2.2.2.2.2.2.2.2.2.2.2.2.2.2, v508, v509, v497, v510, ([] : List Int), ()))) fun k530 =>
                cond (!y528.1)
                  (k530 true)
                  (k530 (y528.2.2.2.2.1 != v486)))
                (none))))))
def law10_EscrowSerial_l20 (n : Nat) (j16 : Int × (List law10_Deed) × Int × Int × (List Pending) × Int × Int × Int × (List Int) × (List Int) × (List Int) × (List Int) × (List Int) × (List Int) × (List Int) × (List Int) × (List Int) × (List Int) × (List Int) × (List Int) × (List Int) × (List Int) × (List Int) × Unit → Option Bool) : Nat → Int × Int × (List law10_Deed) × Int × Int × Int × Int × (List Pending) × Int × Int × Int × (List Int) × (List Int) × (List Int) × (List Int) × (List Int) × (List Int) × (List Int) × (List Int) × (List Int) × (List Int) × (List Int) × (List Int) × (List Int) × (List Int) × (List Int) × Unit → Option Bool := loopF fun r20 ⟨v531, v532, v533, v534, v535, v536, v537, v538, v539, v540, v541, v542, v543, v544, v545, v546, v547, v548, v549, v550, v551, v552, v553, v554, v555, v556, _⟩ =>
    cond (decide (v537 < v536))
      ((idx v542 v537).bind fun x557 =>
      (idx v542 v537).bind fun x558 =>
      jn (fun (b559 : Bool) =>
          cond b559
            (some false)
            (r20 ((IntKind.wrap .i64 (v531 + x558)), v532, v533, v534, v535, v536, (IntKind.wrap .i64 (v537 + 1)), v538, v539, v540, v541, v542, v543, v544, v545, v546, v547, v548, v549, v550, v551, v552, v553, v554, v555, v556, ()))) fun k560 =>
      cond (decide ((IntKind.wrap .i64 (v531 + x558)) < v539))
        (k560 true)
        (k560 (decide ((IntKind.wrap .i64 (v531 + x558)) > v540))))
      (cond (decide (v532 = 0))
        ((law10_book_over n 0 true v538 v539 v540 v541 v543 v544 v545 v546 v547 v548 v549 v550 v551 v552).bind fun y561 =>
        jn (fun (b562 : Bool) =>
            cond b562
              (some false)
              (j16 (v531, v533, v534, v535, y561.2.1, y561.2.2.1, y561.2.2.2.1, y561.2.2.2.2.1, y561.2.2.2.2.2.1, y561.2.2.2.2.2.2.1, y561.2.2.2.2.2.2.2.1, y561.2.2.2.2.2.2.2.2.1, y561.2.2.2.2.2.2.2.2.2.1, y561.2.2.2.2.2.2.2.2.2.2.1, y561.2.2.2.2.2.2.2.2.2.2.2.1, y561.2.2.2.2.2.2.2.2.2.2.2.2.1, y561.2.2.2.2.2.2.2.2.2.2.2.2.2.1, y561.2.2.2.2.2.2.2.2.2.2.2.2.2.2, ([] : List Int), v554, v555, v542, v556, ()))) fun k563 =>
        cond (!y561.1)
          (k563 true)
          (k563 (y561.2.2.2.2.1 != v531)))
        (cond (decide (v532 = 1))
          ((law10_book_over n 1 true v538 v539 v540 v541 v543 v544 v545 v546 v547 v548 v549 v550 v551 v552).bind fun y564 =>
          jn (fun (b565 : Bool) =>
              cond b565
                (some false)
                (j16 (v531, v533, v534, v535, y564.2.1, y564.2.2.1, y564.2.2.2.1, y564.2.2.2.2.1, y564.2.2.2.2.2.1, y564.2.2.2.2.2.2.1, y564.2.2.2.2.2.2.2.1, y564.2.2.2.2.2.2.2.2.1, y564.2.2.2.2.2.2.2.2.2.1, y564.2.2.2.2.2.2.2.2.2.2.1, y564.2.2.2.2.2.2.2.2.2.2.2.1, y564.2.2.2.2.2.2.2.2.2.2.2.2.1, y564.2.2.2.2.2.2.2.2.2.2.2.2.2.1, y564.2.2.2.2.2.2.2.2.2.2.2.2.2.2, v553, ([] : List Int), v555, v542, v556, ()))) fun k566 =>
          cond (!y564.1)
            (k566 true)
            (k566 (y564.2.2.2.2.1 != v531)))
          (cond (decide (v532 = 2))
            ((law10_book_over n 2 true v538 v539 v540 v541 v543 v544 v545 v546 v547 v548 v549 v550 v551 v552).bind fun y567 =>
            jn (fun (b568 : Bool) =>
                cond b568
                  (some false)
                  (j16 (v531, v533, v534, v535, y567.2.1, y567.2.2.1, y567.2.2.2.1, y567.2.2.2.2.1, y567.2.2.2.2.2.1, y567.2.2.2.2.2.2.1, y567.2.2.2.2.2.2.2.1, y567.2.2.2.2.2.2.2.2.1, y567.2.2.2.2.2.2.2.2.2.1, y567.2.2.2.2.2.2.2.2.2.2.1, y567.2.2.2.2.2.2.2.2.2.2.2.1, y567.2.2.2.2.2.2.2.2.2.2.2.2.1, y567.2.2.2.2.2.2.2.2.2.2.2.2.2.1, y567.2.2.2.2.2.2.2.2.2.2.2.2.2.2, v553, v554, ([] : List Int), v542, v556, ()))) fun k569 =>
            cond (!y567.1)
              (k569 true)
              (k569 (y567.2.2.2.2.1 != v531)))
            (cond (decide (v532 = 3))
              ((law10_book_over n 3 true v538 v539 v540 v541 v543 v544 v545 v546 v547 v548 v549 v550 v551 v552).bind fun y570 =>
              jn (fun (b571 : Bool) =>
                  cond b571
                    (some false)
                    (j16 (v531, v533, v534, v535, y570.2.1, y570.2.2.1, y570.2.2.2.1, y570.2.2.2.2.1, y570.2.2.2.2.2.1, y570.2.2.2.2.2.2.1, y570.2.2.2.2.2.2.2.1, y570.2.2.2.2.2.2.2.2.1, y570.2.2.2.2.2.2.2.2.2.1, y570.2.2.2.2.2.2.2.2.2.2.1, y570.2.2.2.2.2.2.2.2.2.2.2.1, y570.2.2.2.2.2.2.2.2.2.2.2.2.1, y570.2.2.2.2.2.2.2.2.2.2.2.2.2.1, y570.2.2.2.2.2.2.2.2.2.2.2.2.2.2, v553, v554, v555, ([] : List Int), v556, ()))) fun k572 =>
              cond (!y570.1)
                (k572 true)
                (k572 (y570.2.2.2.2.1 != v531)))
              (cond (decide (v532 = 4))
                ((law10_book_over n 4 true v538 v539 v540 v541 v543 v544 v545 v546 v547 v548 v549 v550 v551 v552).bind fun y573 =>
                jn (fun (b574 : Bool) =>
                    cond b574
                      (some false)
                      (j16 (v531, v533, v534, v535, y573.2.1, y573.2.2.1, y573.2.2.2.1, y573.2.2.2.2.1, y573.2.2.2.2.2.1, y573.2.2.2.2.2.2.1, y573.2.2.2.2.2.2.2.1, y573.2.2.2.2.2.2.2.2.1, y573.2.2.2.2.2.2.2.2.2.1, y573.2.2.2.2.2.2.2.2.2.2.1, y573.2.2.2.2.2.2.2.2.2.2.2.1, y573.2.2.2.2.2.2.2.2.2.2.2.2.1, y573.2.2.2.2.2.2.2.2.2.2.2.2.2.1, y573.2.2.2.2.2.2.2.2.2.2.2.2.2.2, v553, v554, v555, v542, ([] : List Int), ()))) fun k575 =>
                cond (!y573.1)
                  (k575 true)
                  (k575 (y573.2.2.2.2.1 != v531)))
                (none))))))
def law10_EscrowSerial_l21 (n : Nat) (j16 : Int × (List law10_Deed) × Int × Int × (List Pending) × Int × Int × Int × (List Int) × (List Int) × (List Int) × (List Int) × (List Int) × (List Int) × (List Int) × (List Int) × (List Int) × (List Int) × (List Int) × (List Int) × (List Int) × (List Int) × (List Int) × Unit → Option Bool) : Nat → Int × Int × (List law10_Deed) × Int × Int × Int × Int × (List Pending) × Int × Int × Int × (List Int) × (List Int) × (List Int) × (List Int) × (List Int) × (List Int) × (List Int) × (List Int) × (List Int) × (List Int) × (List Int) × (List Int) × (List Int) × (List Int) × (List Int) × Unit → Option Bool := loopF fun r21 ⟨v576, v577, v578, v579, v580, v581, v582, v583, v584, v585, v586, v587, v588, v589, v590, v591, v592, v593, v594, v595, v596, v597, v598, v599, v600, v601, _⟩ =>
    cond (decide (v582 < v581))
      ((idx v587 v582).bind fun x602 =>
      (idx v587 v582).bind fun x603 =>
      jn (fun (b604 : Bool) =>
          cond b604
            (some false)
            (r21 ((IntKind.wrap .i64 (v576 + x603)), v577, v578, v579, v580, v581, (IntKind.wrap .i64 (v582 + 1)), v583, v584, v585, v586, v587, v588, v589, v590, v591, v592, v593, v594, v595, v596, v597, v598, v599, v600, v601, ()))) fun k605 =>
      cond (decide ((IntKind.wrap .i64 (v576 + x603)) < v584))
        (k605 true)
        (k605 (decide ((IntKind.wrap .i64 (v576 + x603)) > v585))))
      (cond (decide (v577 = 0))
        ((law10_book_over n 0 true v583 v584 v585 v586 v588 v589 v590 v591 v592 v593 v594 v595 v596 v597).bind fun y606 =>
        jn (fun (b607 : Bool) =>
            cond b607
              (some false)
              (j16 (v576, v578, v579, v580, y606.2.1, y606.2.2.1, y606.2.2.2.1, y606.2.2.2.2.1, y606.2.2.2.2.2.1, y606.2.2.2.2.2.2.1, y606.2.2.2.2.2.2.2.1, y606.2.2.2.2.2.2.2.2.1, y606.2.2.2.2.2.2.2.2.2.1, y606.2.2.2.2.2.2.2.2.2.2.1, y606.2.2.2.2.2.2.2.2.2.2.2.1, y606.2.2.2.2.2.2.2.2.2.2.2.2.1, y606.2.2.2.2.2.2.2.2.2.2.2.2.2.1, y606.2.2.2.2.2.2.2.2.2.2.2.2.2.2, ([] : List Int), v599, v600, v601, v587, ()))) fun k608 =>
        cond (!y606.1)
          (k608 true)
          (k608 (y606.2.2.2.2.1 != v576)))
        (cond (decide (v577 = 1))
          ((law10_book_over n 1 true v583 v584 v585 v586 v588 v589 v590 v591 v592 v593 v594 v595 v596 v597).bind fun y609 =>
          jn (fun (b610 : Bool) =>
              cond b610
                (some false)
                (j16 (v576, v578, v579, v580, y609.2.1, y609.2.2.1, y609.2.2.2.1, y609.2.2.2.2.1, y609.2.2.2.2.2.1, y609.2.2.2.2.2.2.1, y609.2.2.2.2.2.2.2.1, y609.2.2.2.2.2.2.2.2.1, y609.2.2.2.2.2.2.2.2.2.1, y609.2.2.2.2.2.2.2.2.2.2.1, y609.2.2.2.2.2.2.2.2.2.2.2.1, y609.2.2.2.2.2.2.2.2.2.2.2.2.1, y609.2.2.2.2.2.2.2.2.2.2.2.2.2.1, y609.2.2.2.2.2.2.2.2.2.2.2.2.2.2, v598, ([] : List Int), v600, v601, v587, ()))) fun k611 =>
          cond (!y609.1)
            (k611 true)
            (k611 (y609.2.2.2.2.1 != v576)))
          (cond (decide (v577 = 2))
            ((law10_book_over n 2 true v583 v584 v585 v586 v588 v589 v590 v591 v592 v593 v594 v595 v596 v597).bind fun y612 =>
            jn (fun (b613 : Bool) =>
                cond b613
                  (some false)
                  (j16 (v576, v578, v579, v580, y612.2.1, y612.2.2.1, y612.2.2.2.1, y612.2.2.2.2.1, y612.2.2.2.2.2.1, y612.2.2.2.2.2.2.1, y612.2.2.2.2.2.2.2.1, y612.2.2.2.2.2.2.2.2.1, y612.2.2.2.2.2.2.2.2.2.1, y612.2.2.2.2.2.2.2.2.2.2.1, y612.2.2.2.2.2.2.2.2.2.2.2.1, y612.2.2.2.2.2.2.2.2.2.2.2.2.1, y612.2.2.2.2.2.2.2.2.2.2.2.2.2.1, y612.2.2.2.2.2.2.2.2.2.2.2.2.2.2, v598, v599, ([] : List Int), v601, v587, ()))) fun k614 =>
            cond (!y612.1)
              (k614 true)
              (k614 (y612.2.2.2.2.1 != v576)))
            (cond (decide (v577 = 3))
              ((law10_book_over n 3 true v583 v584 v585 v586 v588 v589 v590 v591 v592 v593 v594 v595 v596 v597).bind fun y615 =>
              jn (fun (b616 : Bool) =>
                  cond b616
                    (some false)
                    (j16 (v576, v578, v579, v580, y615.2.1, y615.2.2.1, y615.2.2.2.1, y615.2.2.2.2.1, y615.2.2.2.2.2.1, y615.2.2.2.2.2.2.1, y615.2.2.2.2.2.2.2.1, y615.2.2.2.2.2.2.2.2.1, y615.2.2.2.2.2.2.2.2.2.1, y615.2.2.2.2.2.2.2.2.2.2.1, y615.2.2.2.2.2.2.2.2.2.2.2.1, y615.2.2.2.2.2.2.2.2.2.2.2.2.1, y615.2.2.2.2.2.2.2.2.2.2.2.2.2.1, y615.2.2.2.2.2.2.2.2.2.2.2.2.2.2, v598, v599, v600, ([] : List Int), v587, ()))) fun k617 =>
              cond (!y615.1)
                (k617 true)
                (k617 (y615.2.2.2.2.1 != v576)))
              (cond (decide (v577 = 4))
                ((law10_book_over n 4 true v583 v584 v585 v586 v588 v589 v590 v591 v592 v593 v594 v595 v596 v597).bind fun y618 =>
                jn (fun (b619 : Bool) =>
                    cond b619
                      (some false)
                      (j16 (v576, v578, v579, v580, y618.2.1, y618.2.2.1, y618.2.2.2.1, y618.2.2.2.2.1, y618.2.2.2.2.2.1, y618.2.2.2.2.2.2.1, y618.2.2.2.2.2.2.2.1, y618.2.2.2.2.2.2.2.2.1, y618.2.2.2.2.2.2.2.2.2.1, y618.2.2.2.2.2.2.2.2.2.2.1, y618.2.2.2.2.2.2.2.2.2.2.2.1, y618.2.2.2.2.2.2.2.2.2.2.2.2.1, y618.2.2.2.2.2.2.2.2.2.2.2.2.2.1, y618.2.2.2.2.2.2.2.2.2.2.2.2.2.2, v598, v599, v600, v601, ([] : List Int), ()))) fun k620 =>
                cond (!y618.1)
                  (k620 true)
                  (k620 (y618.2.2.2.2.1 != v576)))
                (none))))))
def law10_EscrowSerial_j3 (n : Nat) (r2 : Int × (List law10_Deed) × Int × Int × (List Pending) × Int × Int × Int × (List Int) × (List Int) × (List Int) × (List Int) × (List Int) × (List Int) × (List Int) × (List Int) × (List Int) × (List Int) × (List Int) × (List Int) × (List Int) × (List Int) × (List Int) × Unit → Option Bool) : Int × Int × (List law10_Deed) × Int × Int × Int × Bool × (List Pending) × Int × Int × Int × law10_Deed × (List Int) × (List Int) × (List Int) × (List Int) × (List Int) × (List Int) × (List Int) × (List Int) × (List Int) × (List Int) × (List Int) × (List Int) × (List Int) × (List Int) × (List Int) × Unit → Option Bool := fun ⟨v30, v31, v32, v33, v34, v35, v36, v37, v38, v39, v40, v41, v42, v43, v44, v45, v46, v47, v48, v49, v50, v51, v52, v53, v54, v55, v56, _⟩ =>
    jn (law10_EscrowSerial_j4 n r2) fun j4 =>
    cond v36
      (cond (decide (v31 = 0))
        ((remP v41.by_ 2000).bind fun z80 =>
        (law10_book_adds n 0 z80 v37 v38 v39 v40 v42 v43 v44 v45 v46 v47 v48 v49 v50 v51).bind fun y81 =>
        cond (!y81.1)
          (some false)
          (jn (law10_EscrowSerial_j5 n j4) fun j5 =>
          cond (decide ((y81.2.2.2.2.2.1.length : Int) > (v42.length : Int)))
            ((remP v41.by_ 2000).bind fun z105 =>
            (app 8 v52 ([z105] : List Int)).bind fun l106 =>
            j5 (v30, v32, v33, v34, y81.2.1, y81.2.2.1, y81.2.2.2.1, y81.2.2.2.2.1, y81.2.2.2.2.2.1, y81.2.2.2.2.2.2.1, y81.2.2.2.2.2.2.2.1, y81.2.2.2.2.2.2.2.2.1, y81.2.2.2.2.2.2.2.2.2.1, y81.2.2.2.2.2.2.2.2.2.2.1, y81.2.2.2.2.2.2.2.2.2.2.2.1, y81.2.2.2.2.2.2.2.2.2.2.2.2.1, y81.2.2.2.2.2.2.2.2.2.2.2.2.2.1, y81.2.2.2.2.2.2.2.2.2.2.2.2.2.2, l106, v53, v54, v55, v56, ()))
            (j5 (v30, v32, v33, v34, y81.2.1, y81.2.2.1, y81.2.2.2.1, y81.2.2.2.2.1, y81.2.2.2.2.2.1, y81.2.2.2.2.2.2.1, y81.2.2.2.2.2.2.2.1, y81.2.2.2.2.2.2.2.2.1, y81.2.2.2.2.2.2.2.2.2.1, y81.2.2.2.2.2.2.2.2.2.2.1, y81.2.2.2.2.2.2.2.2.2.2.2.1, y81.2.2.2.2.2.2.2.2.2.2.2.2.1, y81.2.2.2.2.2.2.2.2.2.2.2.2.2.1, y81.2.2.2.2.2.2.2.2.2.2.2.2.2.2, v52, v53, v54, v55, v56, ()))))
        (cond (decide (v31 = 1))
          ((remP v41.by_ 2000).bind fun z107 =>
          (law10_book_adds n 1 z107 v37 v38 v39 v40 v42 v43 v44 v45 v46 v47 v48 v49 v50 v51).bind fun y108 =>
          cond (!y108.1)
            (some false)
            (jn (law10_EscrowSerial_j6 n j4) fun j6 =>
            cond (decide ((y108.2.2.2.2.2.2.1.length : Int) > (v43.length : Int)))
              ((remP v41.by_ 2000).bind fun z132 =>
              (app 8 v53 ([z132] : List Int)).bind fun l133 =>
              j6 (v30, v32, v33, v34, y108.2.1, y108.2.2.1, y108.2.2.2.1, y108.2.2.2.2.1, y108.2.2.2.2.2.1, y108.2.2.2.2.2.2.1, y108.2.2.2.2.2.2.2.1, y108.2.2.2.2.2.2.2.2.1, y108.2.2.2.2.2.2.2.2.2.1, y108.2.2.2.2.2.2.2.2.2.2.1, y108.2.2.2.2.2.2.2.2.2.2.2.1, y108.2.2.2.2.2.2.2.2.2.2.2.2.1, y108.2.2.2.2.2.2.2.2.2.2.2.2.2.1, y108.2.2.2.2.2.2.2.2.2.2.2.2.2.2, v52, l133, v54, v55, v56, ()))
              (j6 (v30, v32, v33, v34, y108.2.1, y108.2.2.1, y108.2.2.2.1, y108.2.2.2.2.1, y108.2.2.2.2.2.1, y108.2.2.2.2.2.2.1, y108.2.2.2.2.2.2.2.1, y108.2.2.2.2.2.2.2.2.1, y108.2.2.2.2.2.2.2.2.2.1, y108.2.2.2.2.2.2.2.2.2.2.1, y108.2.2.2.2.2.2.2.2.2.2.2.1, y108.2.2.2.2.2.2.2.2.2.2.2.2.1, y108.2.2.2.2.2.2.2.2.2.2.2.2.2.1, y108.2.2.2.2.2.2.2.2.2.2.2.2.2.2, v52, v53, v54, v55, v56, ()))))
          (cond (decide (v31 = 2))
            ((remP v41.by_ 2000).bind fun z134 =>
            (law10_book_adds n 2 z134 v37 v38 v39 v40 v42 v43 v44 v45 v46 v47 v48 v49 v50 v51).bind fun y135 =>
            cond (!y135.1)
              (some false)
              (jn (law10_EscrowSerial_j7 n j4) fun j7 =>
              cond (decide ((y135.2.2.2.2.2.2.2.1.length : Int) > (v44.length : Int)))
                ((remP v41.by_ 2000).bind fun z159 =>
                (app 8 v54 ([z159] : List Int)).bind fun l160 =>
                j7 (v30, v32, v33, v34, y135.2.1, y135.2.2.1, y135.2.2.2.1, y135.2.2.2.2.1, y135.2.2.2.2.2.1, y135.2.2.2.2.2.2.1, y135.2.2.2.2.2.2.2.1, y135.2.2.2.2.2.2.2.2.1, y135.2.2.2.2.2.2.2.2.2.1, y135.2.2.2.2.2.2.2.2.2.2.1, y135.2.2.2.2.2.2.2.2.2.2.2.1, y135.2.2.2.2.2.2.2.2.2.2.2.2.1, y135.2.2.2.2.2.2.2.2.2.2.2.2.2.1, y135.2.2.2.2.2.2.2.2.2.2.2.2.2.2, v52, v53, l160, v55, v56, ()))
                (j7 (v30, v32, v33, v34, y135.2.1, y135.2.2.1, y135.2.2.2.1, y135.2.2.2.2.1, y135.2.2.2.2.2.1, y135.2.2.2.2.2.2.1, y135.2.2.2.2.2.2.2.1, y135.2.2.2.2.2.2.2.2.1, y135.2.2.2.2.2.2.2.2.2.1, y135.2.2.2.2.2.2.2.2.2.2.1, y135.2.2.2.2.2.2.2.2.2.2.2.1, y135.2.2.2.2.2.2.2.2.2.2.2.2.1, y135.2.2.2.2.2.2.2.2.2.2.2.2.2.1, y135.2.2.2.2.2.2.2.2.2.2.2.2.2.2, v52, v53, v54, v55, v56, ()))))
            (cond (decide (v31 = 3))
              ((remP v41.by_ 2000).bind fun z161 =>
              (law10_book_adds n 3 z161 v37 v38 v39 v40 v42 v43 v44 v45 v46 v47 v48 v49 v50 v51).bind fun y162 =>
              cond (!y162.1)
                (some false)
                (jn (law10_EscrowSerial_j8 n j4) fun j8 =>
                cond (decide ((y162.2.2.2.2.2.2.2.2.1.length : Int) > (v45.length : Int)))
                  ((remP v41.by_ 2000).bind fun z186 =>
                  (app 8 v55 ([z186] : List Int)).bind fun l187 =>
                  j8 (v30, v32, v33, v34, y162.2.1, y162.2.2.1, y162.2.2.2.1, y162.2.2.2.2.1, y162.2.2.2.2.2.1, y162.2.2.2.2.2.2.1, y162.2.2.2.2.2.2.2.1, y162.2.2.2.2.2.2.2.2.1, y162.2.2.2.2.2.2.2.2.2.1, y162.2.2.2.2.2.2.2.2.2.2.1, y162.2.2.2.2.2.2.2.2.2.2.2.1, y162.2.2.2.2.2.2.2.2.2.2.2.2.1, y162.2.2.2.2.2.2.2.2.2.2.2.2.2.1, y162.2.2.2.2.2.2.2.2.2.2.2.2.2.2, v52, v53, v54, l187, v56, ()))
                  (j8 (v30, v32, v33, v34, y162.2.1, y162.2.2.1, y162.2.2.2.1, y162.2.2.2.2.1, y162.2.2.2.2.2.1, y162.2.2.2.2.2.2.1, y162.2.2.2.2.2.2.2.1, y162.2.2.2.2.2.2.2.2.1, y162.2.2.2.2.2.2.2.2.2.1, y162.2.2.2.2.2.2.2.2.2.2.1, y162.2.2.2.2.2.2.2.2.2.2.2.1, y162.2.2.2.2.2.2.2.2.2.2.2.2.1, y162.2.2.2.2.2.2.2.2.2.2.2.2.2.1, y162.2.2.2.2.2.2.2.2.2.2.2.2.2.2, v52, v53, v54, v55, v56, ()))))
              (cond (decide (v31 = 4))
                ((remP v41.by_ 2000).bind fun z188 =>
                (law10_book_adds n 4 z188 v37 v38 v39 v40 v42 v43 v44 v45 v46 v47 v48 v49 v50 v51).bind fun y189 =>
                cond (!y189.1)
                  (some false)
                  (jn (law10_EscrowSerial_j9 n j4) fun j9 =>
                  cond (decide ((y189.2.2.2.2.2.2.2.2.2.1.length : Int) > (v46.length : Int)))
                    ((remP v41.by_ 2000).bind fun z213 =>
                    (app 8 v56 ([z213] : List Int)).bind fun l214 =>
                    j9 (v30, v32, v33, v34, y189.2.1, y189.2.2.1, y189.2.2.2.1, y189.2.2.2.2.1, y189.2.2.2.2.2.1, y189.2.2.2.2.2.2.1, y189.2.2.2.2.2.2.2.1, y189.2.2.2.2.2.2.2.2.1, y189.2.2.2.2.2.2.2.2.2.1, y189.2.2.2.2.2.2.2.2.2.2.1, y189.2.2.2.2.2.2.2.2.2.2.2.1, y189.2.2.2.2.2.2.2.2.2.2.2.2.1, y189.2.2.2.2.2.2.2.2.2.2.2.2.2.1, y189.2.2.2.2.2.2.2.2.2.2.2.2.2.2, v52, v53, v54, v55, l214, ()))
                    (j9 (v30, v32, v33, v34, y189.2.1, y189.2.2.1, y189.2.2.2.1, y189.2.2.2.2.1, y189.2.2.2.2.2.1, y189.2.2.2.2.2.2.1, y189.2.2.2.2.2.2.2.1, y189.2.2.2.2.2.2.2.2.1, y189.2.2.2.2.2.2.2.2.2.1, y189.2.2.2.2.2.2.2.2.2.2.1, y189.2.2.2.2.2.2.2.2.2.2.2.1, y189.2.2.2.2.2.2.2.2.2.2.2.2.1, y189.2.2.2.2.2.2.2.2.2.2.2.2.2.1, y189.2.2.2.2.2.2.2.2.2.2.2.2.2.2, v52, v53, v54, v55, v56, ()))))
                (none))))))
      (jn (law10_EscrowSerial_j10 n j4) fun j10 =>
      cond (v35 == 3)
        (cond (decide (v31 = 0))
          (jn (law10_EscrowSerial_j11 n j10) fun j11 =>
          cond (decide ((v42.length : Int) > 0))
            ((idx v42 (IntKind.wrap .i64 ((v42.length : Int) - 1))).bind fun x261 =>
            (idx v42 (IntKind.wrap .i64 ((v42.length : Int) - 1))).bind fun x262 =>
            (app 8 v52 ([(IntKind.wrap .i64 (0 - x262))] : List Int)).bind fun l263 =>
            (law10_book_back n 0 v37 v38 v39 v40 v42 v43 v44 v45 v46 v47 v48 v49 v50 v51).bind fun y264 =>
            cond (!y264.1)
              (some false)
              (j11 (v30, v32, v33, v34, y264.2.1, y264.2.2.1, y264.2.2.2.1, y264.2.2.2.2.1, y264.2.2.2.2.2.1, y264.2.2.2.2.2.2.1, y264.2.2.2.2.2.2.2.1, y264.2.2.2.2.2.2.2.2.1, y264.2.2.2.2.2.2.2.2.2.1, y264.2.2.2.2.2.2.2.2.2.2.1, y264.2.2.2.2.2.2.2.2.2.2.2.1, y264.2.2.2.2.2.2.2.2.2.2.2.2.1, y264.2.2.2.2.2.2.2.2.2.2.2.2.2.1, y264.2.2.2.2.2.2.2.2.2.2.2.2.2.2, l263, v53, v54, v55, v56, ())))
            (j11 (v30, v32, v33, v34, v37, v38, v39, v40, v42, v43, v44, v45, v46, v47, v48, v49, v50, v51, v52, v53, v54, v55, v56, ())))
          (cond (decide (v31 = 1))
            (jn (law10_EscrowSerial_j12 n j10) fun j12 =>
            cond (decide ((v43.length : Int) > 0))
              ((idx v43 (IntKind.wrap .i64 ((v43.length : Int) - 1))).bind fun x288 =>
              (idx v43 (IntKind.wrap .i64 ((v43.length : Int) - 1))).bind fun x289 =>
              (app 8 v53 ([(IntKind.wrap .i64 (0 - x289))] : List Int)).bind fun l290 =>
              (law10_book_back n 1 v37 v38 v39 v40 v42 v43 v44 v45 v46 v47 v48 v49 v50 v51).bind fun y291 =>
              cond (!y291.1)
                (some false)
                (j12 (v30, v32, v33, v34, y291.2.1, y291.2.2.1, y291.2.2.2.1, y291.2.2.2.2.1, y291.2.2.2.2.2.1, y291.2.2.2.2.2.2.1, y291.2.2.2.2.2.2.2.1, y291.2.2.2.2.2.2.2.2.1, y291.2.2.2.2.2.2.2.2.2.1, y291.2.2.2.2.2.2.2.2.2.2.1, y291.2.2.2.2.2.2.2.2.2.2.2.1, y291.2.2.2.2.2.2.2.2.2.2.2.2.1, y291.2.2.2.2.2.2.2.2.2.2.2.2.2.1, y291.2.2.2.2.2.2.2.2.2.2.2.2.2.2, v52, l290, v54, v55, v56, ())))
              (j12 (v30, v32, v33, v34, v37, v38, v39, v40, v42, v43, v44, v45, v46, v47, v48, v49, v50, v51, v52, v53, v54, v55, v56, ())))
            (cond (decide (v31 = 2))
              (jn (law10_EscrowSerial_j13 n j10) fun j13 =>
              cond (decide ((v44.length : Int) > 0))
                ((idx v44 (IntKind.wrap .i64 ((v44.length : Int) - 1))).bind fun x315 =>
                (idx v44 (IntKind.wrap .i64 ((v44.length : Int) - 1))).bind fun x316 =>
                (app 8 v54 ([(IntKind.wrap .i64 (0 - x316))] : List Int)).bind fun l317 =>
                (law10_book_back n 2 v37 v38 v39 v40 v42 v43 v44 v45 v46 v47 v48 v49 v50 v51).bind fun y318 =>
                cond (!y318.1)
                  (some false)
                  (j13 (v30, v32, v33, v34, y318.2.1, y318.2.2.1, y318.2.2.2.1, y318.2.2.2.2.1, y318.2.2.2.2.2.1, y318.2.2.2.2.2.2.1, y318.2.2.2.2.2.2.2.1, y318.2.2.2.2.2.2.2.2.1, y318.2.2.2.2.2.2.2.2.2.1, y318.2.2.2.2.2.2.2.2.2.2.1, y318.2.2.2.2.2.2.2.2.2.2.2.1, y318.2.2.2.2.2.2.2.2.2.2.2.2.1, y318.2.2.2.2.2.2.2.2.2.2.2.2.2.1, y318.2.2.2.2.2.2.2.2.2.2.2.2.2.2, v52, v53, l317, v55, v56, ())))
                (j13 (v30, v32, v33, v34, v37, v38, v39, v40, v42, v43, v44, v45, v46, v47, v48, v49, v50, v51, v52, v53, v54, v55, v56, ())))
              (cond (decide (v31 = 3))
                (jn (law10_EscrowSerial_j14 n j10) fun j14 =>
                cond (decide ((v45.length : Int) > 0))
                  ((idx v45 (IntKind.wrap .i64 ((v45.length : Int) - 1))).bind fun x342 =>
                  (idx v45 (IntKind.wrap .i64 ((v45.length : Int) - 1))).bind fun x343 =>
                  (app 8 v55 ([(IntKind.wrap .i64 (0 - x343))] : List Int)).bind fun l344 =>
                  (law10_book_back n 3 v37 v38 v39 v40 v42 v43 v44 v45 v46 v47 v48 v49 v50 v51).bind fun y345 =>
                  cond (!y345.1)
                    (some false)
                    (j14 (v30, v32, v33, v34, y345.2.1, y345.2.2.1, y345.2.2.2.1, y345.2.2.2.2.1, y345.2.2.2.2.2.1, y345.2.2.2.2.2.2.1, y345.2.2.2.2.2.2.2.1, y345.2.2.2.2.2.2.2.2.1, y345.2.2.2.2.2.2.2.2.2.1, y345.2.2.2.2.2.2.2.2.2.2.1, y345.2.2.2.2.2.2.2.2.2.2.2.1, y345.2.2.2.2.2.2.2.2.2.2.2.2.1, y345.2.2.2.2.2.2.2.2.2.2.2.2.2.1, y345.2.2.2.2.2.2.2.2.2.2.2.2.2.2, v52, v53, v54, l344, v56, ())))
                  (j14 (v30, v32, v33, v34, v37, v38, v39, v40, v42, v43, v44, v45, v46, v47, v48, v49, v50, v51, v52, v53, v54, v55, v56, ())))
                (cond (decide (v31 = 4))
                  (jn (law10_EscrowSerial_j15 n j10) fun j15 =>
                  cond (decide ((v46.length : Int) > 0))
                    ((idx v46 (IntKind.wrap .i64 ((v46.length : Int) - 1))).bind fun x369 =>
                    (idx v46 (IntKind.wrap .i64 ((v46.length : Int) - 1))).bind fun x370 =>
                    (app 8 v56 ([(IntKind.wrap .i64 (0 - x370))] : List Int)).bind fun l371 =>
                    (law10_book_back n 4 v37 v38 v39 v40 v42 v43 v44 v45 v46 v47 v48 v49 v50 v51).bind fun y372 =>
                    cond (!y372.1)
                      (some false)
                      (j15 (v30, v32, v33, v34, y372.2.1, y372.2.2.1, y372.2.2.2.1, y372.2.2.2.2.1, y372.2.2.2.2.2.1, y372.2.2.2.2.2.2.1, y372.2.2.2.2.2.2.2.1, y372.2.2.2.2.2.2.2.2.1, y372.2.2.2.2.2.2.2.2.2.1, y372.2.2.2.2.2.2.2.2.2.2.1, y372.2.2.2.2.2.2.2.2.2.2.2.1, y372.2.2.2.2.2.2.2.2.2.2.2.2.1, y372.2.2.2.2.2.2.2.2.2.2.2.2.2.1, y372.2.2.2.2.2.2.2.2.2.2.2.2.2.2, v52, v53, v54, v55, l371, ())))
                    (j15 (v30, v32, v33, v34, v37, v38, v39, v40, v42, v43, v44, v45, v46, v47, v48, v49, v50, v51, v52, v53, v54, v55, v56, ())))
                  (none))))))
        (jn (law10_EscrowSerial_j16 n j10) fun j16 =>
        cond (v35 == 4)
          (cond (decide (v31 = 0))
            (law10_EscrowSerial_l17 n j16 n (v30, 0, v32, v33, v34, (v52.length : Int), 0, v37, v38, v39, v40, v52, v42, v43, v44, v45, v46, v47, v48, v49, v50, v51, v53, v54, v55, v56, ()))
            (cond (decide (v31 = 1))
              (law10_EscrowSerial_l18 n j16 n (v30, 1, v32, v33, v34, (v53.length : Int), 0, v37, v38, v39, v40, v53, v42, v43, v44, v45, v46, v47, v48, v49, v50, v51, v52, v54, v55, v56, ()))
              (cond (decide (v31 = 2))
                (law10_EscrowSerial_l19 n j16 n (v30, 2, v32, v33, v34, (v54.length : Int), 0, v37, v38, v39, v40, v54, v42, v43, v44, v45, v46, v47, v48, v49, v50, v51, v52, v53, v55, v56, ()))
                (cond (decide (v31 = 3))
                  (law10_EscrowSerial_l20 n j16 n (v30, 3, v32, v33, v34, (v55.length : Int), 0, v37, v38, v39, v40, v55, v42, v43, v44, v45, v46, v47, v48, v49, v50, v51, v52, v53, v54, v56, ()))
                  (cond (decide (v31 = 4))
                    (law10_EscrowSerial_l21 n j16 n (v30, 4, v32, v33, v34, (v56.length : Int), 0, v37, v38, v39, v40, v56, v42, v43, v44, v45, v46, v47, v48, v49, v50, v51, v52, v53, v54, v55, ()))
                    (none))))))
          (cond (decide (v31 = 0))
            ((law10_book_over n 0 false v37 v38 v39 v40 v42 v43 v44 v45 v46 v47 v48 v49 v50 v51).bind fun y621 =>
            cond (!y621.1)
              (some false)
              (j16 (v30, v32, v33, v34, y621.2.1, y621.2.2.1, y621.2.2.2.1, y621.2.2.2.2.1, y621.2.2.2.2.2.1, y621.2.2.2.2.2.2.1, y621.2.2.2.2.2.2.2.1, y621.2.2.2.2.2.2.2.2.1, y621.2.2.2.2.2.2.2.2.2.1, y621.2.2.2.2.2.2.2.2.2.2.1, y621.2.2.2.2.2.2.2.2.2.2.2.1, y621.2.2.2.2.2.2.2.2.2.2.2.2.1, y621.2.2.2.2.2.2.2.2.2.2.2.2.2.1, y621.2.2.2.2.2.2.2.2.2.2.2.2.2.2, ([] : List Int), v53, v54, v55, v56, ())))
            (cond (decide (v31 = 1))
              ((law10_book_over n 1 false v37 v38 v39 v40 v42 v43 v44 v45 v46 v47 v48 v49 v50 v51).bind fun y622 =>
              cond (!y622.1)
                (some false)
                (j16 (v30, v32, v33, v34, y622.2.1, y622.2.2.1, y622.2.2.2.1, y622.2.2.2.2.1, y622.2.2.2.2.2.1, y622.2.2.2.2.2.2.1, y622.2.2.2.2.2.2.2.1, y622.2.2.2.2.2.2.2.2.1, y622.2.2.2.2.2.2.2.2.2.1, y622.2.2.2.2.2.2.2.2.2.2.1, y622.2.2.2.2.2.2.2.2.2.2.2.1, y622.2.2.2.2.2.2.2.2.2.2.2.2.1, y622.2.2.2.2.2.2.2.2.2.2.2.2.2.1, y622.2.2.2.2.2.2.2.2.2.2.2.2.2.2, v52, ([] : List Int), v54, v55, v56, ())))
              (cond (decide (v31 = 2))
                ((law10_book_over n 2 false v37 v38 v39 v40 v42 v43 v44 v45 v46 v47 v48 v49 v50 v51).bind fun y623 =>
                cond (!y623.1)
                  (some false)
                  (j16 (v30, v32, v33, v34, y623.2.1, y623.2.2.1, y623.2.2.2.1, y623.2.2.2.2.1, y623.2.2.2.2.2.1, y623.2.2.2.2.2.2.1, y623.2.2.2.2.2.2.2.1, y623.2.2.2.2.2.2.2.2.1, y623.2.2.2.2.2.2.2.2.2.1, y623.2.2.2.2.2.2.2.2.2.2.1, y623.2.2.2.2.2.2.2.2.2.2.2.1, y623.2.2.2.2.2.2.2.2.2.2.2.2.1, y623.2.2.2.2.2.2.2.2.2.2.2.2.2.1, y623.2.2.2.2.2.2.2.2.2.2.2.2.2.2, v52, v53, ([] : List Int), v55, v56, ())))
                (cond (decide (v31 = 3))
                  ((law10_book_over n 3 false v37 v38 v39 v40 v42 v43 v44 v45 v46 v47 v48 v49 v50 v51).bind fun y624 =>
                  cond (!y624.1)
                    (some false)
                    (j16 (v30, v32, v33, v34, y624.2.1, y624.2.2.1, y624.2.2.2.1, y624.2.2.2.2.1, y624.2.2.2.2.2.1, y624.2.2.2.2.2.2.1, y624.2.2.2.2.2.2.2.1, y624.2.2.2.2.2.2.2.2.1, y624.2.2.2.2.2.2.2.2.2.1, y624.2.2.2.2.2.2.2.2.2.2.1, y624.2.2.2.2.2.2.2.2.2.2.2.1, y624.2.2.2.2.2.2.2.2.2.2.2.2.1, y624.2.2.2.2.2.2.2.2.2.2.2.2.2.1, y624.2.2.2.2.2.2.2.2.2.2.2.2.2.2, v52, v53, v54, ([] : List Int), v56, ())))
                  (cond (decide (v31 = 4))
                    ((law10_book_over n 4 false v37 v38 v39 v40 v42 v43 v44 v45 v46 v47 v48 v49 v50 v51).bind fun y625 =>
                    cond (!y625.1)
                      (some false)
                      (j16 (v30, v32, v33, v34, y625.2.1, y625.2.2.1, y625.2.2.2.1, y625.2.2.2.2.1, y625.2.2.2.2.2.1, y625.2.2.2.2.2.2.1, y625.2.2.2.2.2.2.2.1, y625.2.2.2.2.2.2.2.2.1, y625.2.2.2.2.2.2.2.2.2.1, y625.2.2.2.2.2.2.2.2.2.2.1, y625.2.2.2.2.2.2.2.2.2.2.2.1, y625.2.2.2.2.2.2.2.2.2.2.2.2.1, y625.2.2.2.2.2.2.2.2.2.2.2.2.2.1, y625.2.2.2.2.2.2.2.2.2.2.2.2.2.2, v52, v53, v54, v55, ([] : List Int), ())))
                    (none))))))))
def law10_EscrowSerial_j22 (n : Nat) (j3 : Int × Int × (List law10_Deed) × Int × Int × Int × Bool × (List Pending) × Int × Int × Int × law10_Deed × (List Int) × (List Int) × (List Int) × (List Int) × (List Int) × (List Int) × (List Int) × (List Int) × (List Int) × (List Int) × (List Int) × (List Int) × (List Int) × (List Int) × (List Int) × Unit → Option Bool) : Int × Int × (List law10_Deed) × Int × Int × Int × Bool × (List Pending) × Int × Int × Int × law10_Deed × (List Int) × (List Int) × (List Int) × (List Int) × (List Int) × (List Int) × (List Int) × (List Int) × (List Int) × (List Int) × (List Int) × (List Int) × (List Int) × (List Int) × (List Int) × Unit → Option Bool := fun ⟨v626, v627, v628, v629, v630, v631, v632, v633, v634, v635, v636, v637, v638, v639, v640, v641, v642, v643, v644, v645, v646, v647, v648, v649, v650, v651, v652, _⟩ =>
    j3 (v626, v627, v628, v629, v630, v631, v632, v633, v634, v635, v636, v637, v638, v639, v640, v641, v642, v643, v644, v645, v646, v647, v648, v649, v650, v651, v652, ())
def law10_EscrowSerial_l2 (n : Nat) (j1 : Unit → Option Bool) : Nat → Int × (List law10_Deed) × Int × Int × (List Pending) × Int × Int × Int × (List Int) × (List Int) × (List Int) × (List Int) × (List Int) × (List Int) × (List Int) × (List Int) × (List Int) × (List Int) × (List Int) × (List Int) × (List Int) × (List Int) × (List Int) × Unit → Option Bool := loopF fun r2 ⟨v4, v5, v6, v7, v8, v9, v10, v11, v12, v13, v14, v15, v16, v17, v18, v19, v20, v21, v22, v23, v24, v25, v26, _⟩ =>
    cond (decide (v7 < v6))
      ((idx v5 v7).bind fun x27 =>
      cond (v7 == 80)
        (j1 (()))
        ((remP (IntKind.wrap .u64 x27.txn) 4).bind fun z28 =>
        (remP (IntKind.wrap .u64 x27.kind) 6).bind fun z29 =>
        jn (law10_EscrowSerial_j3 n r2) fun j3 =>
        cond (z29 == 0)
          (j3 (v4, (IntKind.wrap .i64 ((IntKind.wrap .i64 z28) + 1)), v5, v6, v7, z29, (z29 == 0), v8, v9, v10, v11, x27, v12, v13, v14, v15, v16, v17, v18, v19, v20, v21, v22, v23, v24, v25, v26, ()))
          (jn (law10_EscrowSerial_j22 n j3) fun j22 =>
          cond (z29 == 1)
            (j22 (v4, (IntKind.wrap .i64 ((IntKind.wrap .i64 z28) + 1)), v5, v6, v7, z29, (z29 == 1), v8, v9, v10, v11, x27, v12, v13, v14, v15, v16, v17, v18, v19, v20, v21, v22, v23, v24, v25, v26, ()))
            (j22 (v4, (IntKind.wrap .i64 ((IntKind.wrap .i64 z28) + 1)), v5, v6, v7, z29, (z29 == 2), v8, v9, v10, v11, x27, v12, v13, v14, v15, v16, v17, v18, v19, v20, v21, v22, v23, v24, v25, v26, ())))))
      (j1 (()))
def law10_EscrowSerial (n : Nat) (p0 : Arr2_int64) (p1 : List law10_Deed) : Option Bool :=
  (law10_wakes n).bind fun y1 =>
  cond (!y1)
    (some false)
    ((remP (if 0 > p0.a0 then 0 else p0.a0) 1000).bind fun z2 =>
    (remP (if 0 > p0.a1 then 0 else p0.a1) 1000).bind fun z3 =>
    jn (law10_EscrowSerial_j1 n) fun j1 =>
    law10_EscrowSerial_l2 n j1 n (0, p1, (p1.length : Int), 0, ([] : List Pending), (IntKind.wrap .i64 (0 - z2)), z3, 0, ([] : List Int), ([] : List Int), ([] : List Int), ([] : List Int), ([] : List Int), ([] : List Int), ([] : List Int), ([] : List Int), ([] : List Int), ([] : List Int), ([] : List Int), ([] : List Int), ([] : List Int), ([] : List Int), ([] : List Int), ()))
@[reducible] def law10_EscrowSerial_ct : Ct tab := ⟨6, [.st 9, .one (.d (.sl (.st 10)))], [], [.one (.d .bool)], [], Bool, fun y => (y, ()), fun y => y.1, fun _ => rfl, fun n x => law10_EscrowSerial n x.1 x.2.1⟩
theorem law10_EscrowSerial_ok : OkC Try.prog tab law10_EscrowSerial_ct := fn_ok (W := ⟨Try.prog, tab, tyOf, [law10_wakes_ct, law10_book_adds_ct, law10_book_back_ct, law10_book_over_ct], addO, dpO, false⟩) ⟨tabOk, ⟨law10_wakes_ok, law10_book_adds_ok, law10_book_back_ok, law10_book_over_ok, trivial⟩, addOk⟩ (by kernel_rfl) 169 Try.f6 (.sq (.n) (.sq (.n) (.sq (.n) (.sq (.n) (.sq (.n) (.sq (.sq (.n) (.bk (some ⟨[], [], []⟩) (.lp ⟨[(5, .one (.box 0 0)), (6, .one (.box 1 0)), (7, .one (.d (.int .i64))), (29, .one (.d (.sl (.st 10)))), (30, .one (.d (.int .i64))), (31, .one (.d (.int .i64)))], [.box [.d (.sl (.st 2)), .d (.int .i64), .d (.int .i64), .d (.int .i64), .own 2, .own 3, .own 4, .own 5, .own 6, .own 7, .own 8, .own 9, .own 10, .own 11], .box [.own 12, .own 13, .own 14, .own 15, .own 16], .row 2 (.int .i64), .row 2 (.int .i64), .row 2 (.int .i64), .row 2 (.int .i64), .row 2 (.int .i64), .row 2 (.int .i64), .row 2 (.int .i64), .row 2 (.int .i64), .row 2 (.int .i64), .row 2 (.int .i64), .row 2 (.int .i64), .row 2 (.int .i64), .row 2 (.int .i64), .row 2 (.int .i64), .row 2 (.int .i64)], []⟩ (.sq (.n) (.sq (.n) (.sq (.bk none (.sq (.n) (.sq (.n) (.sq (.n) (.sq (.n) (.bk none (.sq (.sq (.n) (.cd (some ⟨[(5, .one (.box 0 0)), (6, .one (.box 1 0)), (7, .one (.d (.int .i64))), (9, .one (.box 2 0)), (10, .one (.d (.int .i64))), (29, .one (.d (.sl (.st 10)))), (30, .one (.d (.int .i64))), (31, .one (.d (.int .i64))), (47, .one (.d (.int .u64))), (54, .one (.d .bool))], [.box [.d (.sl (.st 2)), .d (.int .i64), .d (.int .i64), .d (.int .i64), .own 3, .own 4, .own 5, .own 6, .own 7, .own 8, .own 9, .own 10, .own 11, .own 12], .box [.own 13, .own 14, .own 15, .own 16, .own 17], .bst 10, .row 2 (.int .i64), .row 2 (.int .i64), .row 2 (.int .i64), .row 2 (.int .i64), .row 2 (.int .i64), .row 2 (.int .i64), .row 2 (.int .i64), .row 2 (.int .i64), .row 2 (.int .i64), .row 2 (.int .i64), .row 2 (.int .i64), .row 2 (.int .i64), .row 2 (.int .i64), .row 2 (.int .i64), .row 2 (.int .i64)], []⟩) (.n) (.sq (.n) (.cd (some ⟨[(5, .one (.box 0 0)), (6, .one (.box 1 0)), (7, .one (.d (.int .i64))), (9, .one (.box 2 0)), (10, .one (.d (.int .i64))), (29, .one (.d (.sl (.st 10)))), (30, .one (.d (.int .i64))), (31, .one (.d (.int .i64))), (47, .one (.d (.int .u64))), (54, .one (.d .bool))], [.box [.d (.sl (.st 2)), .d (.int .i64), .d (.int .i64), .d (.int .i64), .own 3, .own 4, .own 5, .own 6, .own 7, .own 8, .own 9, .own 10, .own 11, .own 12], .box [.own 13, .own 14, .own 15, .own 16, .own 17], .bst 10, .row 2 (.int .i64), .row 2 (.int .i64), .row 2 (.int .i64), .row 2 (.int .i64), .row 2 (.int .i64), .row 2 (.int .i64), .row 2 (.int .i64), .row 2 (.int .i64), .row 2 (.int .i64), .row 2 (.int .i64), .row 2 (.int .i64), .row 2 (.int .i64), .row 2 (.int .i64), .row 2 (.int .i64), .row 2 (.int .i64)], []⟩) (.n) (.n))))) (.cd (some ⟨[(5, .one (.box 0 0)), (6, .one (.box 1 0)), (7, .one (.d (.int .i64))), (29, .one (.d (.sl (.st 10)))), (30, .one (.d (.int .i64))), (31, .one (.d (.int .i64)))], [.box [.d (.sl (.st 2)), .d (.int .i64), .d (.int .i64), .d (.int .i64), .own 2, .own 3, .own 4, .own 5, .own 6, .own 7, .own 8, .own 9, .own 10, .own 11], .box [.own 12, .own 13, .own 14, .own 15, .own 16], .row 2 (.int .i64), .row 2 (.int .i64), .row 2 (.int .i64), .row 2 (.int .i64), .row 2 (.int .i64), .row 2 (.int .i64), .row 2 (.int .i64), .row 2 (.int .i64), .row 2 (.int .i64), .row 2 (.int .i64), .row 2 (.int .i64), .row 2 (.int .i64), .row 2 (.int .i64), .row 2 (.int .i64), .row 2 (.int .i64)], []⟩) (.sq (.rs [(10, 5)] []) (.sq (.n) (.sq (.n) (.cd (some ⟨[(5, .one (.box 0 0)), (6, .one (.box 1 0)), (7, .one (.d (.int .i64))), (29, .one (.d (.sl (.st 10)))), (30, .one (.d (.int .i64))), (31, .one (.d (.int .i64)))], [.box [.d (.sl (.st 2)), .d (.int .i64), .d (.int .i64), .d (.int .i64), .own 2, .own 3, .own 4, .own 5, .own 6, .own 7, .own 8, .own 9, .own 10, .own 11], .box [.own 12, .own 13, .own 14, .own 15, .own 16], .row 2 (.int .i64), .row 2 (.int .i64), .row 2 (.int .i64), .row 2 (.int .i64), .row 2 (.int .i64), .row 2 (.int .i64), .row 2 (.int .i64), .row 2 (.int .i64), .row 2 (.int .i64), .row 2 (.int .i64), .row 2 (.int .i64), .row 2 (.int .i64), .row 2 (.int .i64), .row 2 (.int .i64), .row 2 (.int .i64)], []⟩) (.n) (.n))))) (.sq (.n) (.cd (some ⟨[(5, .one (.box 0 0)), (6, .one (.box 1 0)), (7, .one (.d (.int .i64))), (29, .one (.d (.sl (.st 10)))), (30, .one (.d (.int .i64))), (31, .one (.d (.int .i64)))], [.box [.d (.sl (.st 2)), .d (.int .i64), .d (.int .i64), .d (.int .i64), .own 2, .own 3, .own 4, .own 5, .own 6, .own 7, .own 8, .own 9, .own 10, .own 11], .box [.own 12, .own 13, .own 14, .own 15, .own 16], .row 2 (.int .i64), .row 2 (.int .i64), .row 2 (.int .i64), .row 2 (.int .i64), .row 2 (.int .i64), .row 2 (.int .i64), .row 2 (.int .i64), .row 2 (.int .i64), .row 2 (.int .i64), .row 2 (.int .i64), .row 2 (.int .i64), .row 2 (.int .i64), .row 2 (.int .i64), .row 2 (.int .i64), .row 2 (.int .i64)], []⟩) (.sq (.rs [(10, 5)] []) (.sq (.n) (.cd (some ⟨[(5, .one (.box 0 0)), (6, .one (.box 1 0)), (7, .one (.d (.int .i64))), (29, .one (.d (.sl (.st 10)))), (30, .one (.d (.int .i64))), (31, .one (.d (.int .i64)))], [.box [.d (.sl (.st 2)), .d (.int .i64), .d (.int .i64), .d (.int .i64), .own 2, .own 3, .own 4, .own 5, .own 6, .own 7, .own 8, .own 9, .own 10, .own 11], .box [.own 12, .own 13, .own 14, .own 15, .own 16], .row 2 (.int .i64), .row 2 (.int .i64), .row 2 (.int .i64), .row 2 (.int .i64), .row 2 (.int .i64), .row 2 (.int .i64), .row 2 (.int .i64), .row 2 (.int .i64), .row 2 (.int .i64), .row 2 (.int .i64), .row 2 (.int .i64), .row 2 (.int .i64), .row 2 (.int .i64), .row 2 (.int .i64), .row 2 (.int .i64)], []⟩) (.n) (.n)))) (.sq (.n) (.cd (some ⟨[(5, .one (.box 0 0)), (6, .one (.box 1 0)), (7, .one (.d (.int .i64))), (29, .one (.d (.sl (.st 10)))), (30, .one (.d (.int .i64))), (31, .one (.d (.int .i64)))], [.box [.d (.sl (.st 2)), .d (.int .i64), .d (.int .i64), .d (.int .i64), .own 2, .own 3, .own 4, .own 5, .own 6, .own 7, .own 8, .own 9, .own 10, .own 11], .box [.own 12, .own 13, .own 14, .own 15, .own 16], .row 2 (.int .i64), .row 2 (.int .i64), .row 2 (.int .i64), .row 2 (.int .i64), .row 2 (.int .i64), .row 2 (.int .i64), .row 2 (.int .i64), .row 2 (.int .i64), .row 2 (.int .i64), .row 2 (.int .i64), .row 2 (.int .i64), .row 2 (.int .i64), .row 2 (.int .i64), .row 2 (.int .i64), .row 2 (.int .i64)], []⟩) (.sq (.sq (.rs [(10, 5)] []) (.ch 10 0 (.bk none (.lp ⟨[(5, .one (.box 0 0)), (6, .one (.box 1 0)), (7, .one (.d (.int .i64))), (10, .one (.d (.int .i64))), (29, .one (.d (.sl (.st 10)))), (30, .one (.d (.int .i64))), (31, .one (.d (.int .i64))), (128, .one (.own 2)), (129, .one (.d (.int .i64))), (130, .one (.d (.int .i64)))], [.box [.d (.sl (.st 2)), .d (.int .i64), .d (.int .i64), .d (.int .i64), .own 3, .own 4, .own 5, .own 6, .own 7, .own 8, .own 9, .own 10, .own 11, .own 12], .box [.own 2, .own 13, .own 14, .own 15, .own 16], .row 2 (.int .i64), .row 2 (.int .i64), .row 2 (.int .i64), .row 2 (.int .i64), .row 2 (.int .i64), .row 2 (.int .i64), .row 2 (.int .i64), .row 2 (.int .i64), .row 2 (.int .i64), .row 2 (.int .i64), .row 2 (.int .i64), .row 2 (.int .i64), .row 2 (.int .i64), .row 2 (.int .i64), .row 2 (.int .i64)], []⟩ (.n))) (.ch 10 1 (.bk none (.lp ⟨[(5, .one (.box 0 0)), (6, .one (.box 1 0)), (7, .one (.d (.int .i64))), (10, .one (.d (.int .i64))), (29, .one (.d (.sl (.st 10)))), (30, .one (.d (.int .i64))), (31, .one (.d (.int .i64))), (128, .one (.own 2)), (129, .one (.d (.int .i64))), (130, .one (.d (.int .i64)))], [.box [.d (.sl (.st 2)), .d (.int .i64), .d (.int .i64), .d (.int .i64), .own 3, .own 4, .own 5, .own 6, .own 7, .own 8, .own 9, .own 10, .own 11, .own 12], .box [.own 13, .own 2, .own 14, .own 15, .own 16], .row 2 (.int .i64), .row 2 (.int .i64), .row 2 (.int .i64), .row 2 (.int .i64), .row 2 (.int .i64), .row 2 (.int .i64), .row 2 (.int .i64), .row 2 (.int .i64), .row 2 (.int .i64), .row 2 (.int .i64), .row 2 (.int .i64), .row 2 (.int .i64), .row 2 (.int .i64), .row 2 (.int .i64), .row 2 (.int .i64)], []⟩ (.n))) (.ch 10 2 (.bk none (.lp ⟨[(5, .one (.box 0 0)), (6, .one (.box 1 0)), (7, .one (.d (.int .i64))), (10, .one (.d (.int .i64))), (29, .one (.d (.sl (.st 10)))), (30, .one (.d (.int .i64))), (31, .one (.d (.int .i64))), (128, .one (.own 2)), (129, .one (.d (.int .i64))), (130, .one (.d (.int .i64)))], [.box [.d (.sl (.st 2)), .d (.int .i64), .d (.int .i64), .d (.int .i64), .own 3, .own 4, .own 5, .own 6, .own 7, .own 8, .own 9, .own 10, .own 11, .own 12], .box [.own 13, .own 14, .own 2, .own 15, .own 16], .row 2 (.int .i64), .row 2 (.int .i64), .row 2 (.int .i64), .row 2 (.int .i64), .row 2 (.int .i64), .row 2 (.int .i64), .row 2 (.int .i64), .row 2 (.int .i64), .row 2 (.int .i64), .row 2 (.int .i64), .row 2 (.int .i64), .row 2 (.int .i64), .row 2 (.int .i64), .row 2 (.int .i64), .row 2 (.int .i64)], []⟩ (.n))) (.ch 10 3 (.bk none (.lp ⟨[(5, .one (.box 0 0)), (6, .one (.box 1 0)), (7, .one (.d (.int .i64))), (10, .one (.d (.int .i64))), (29, .one (.d (.sl (.st 10)))), (30, .one (.d (.int .i64))), (31, .one (.d (.int .i64))), (128, .one (.own 2)), (129, .one (.d (.int .i64))), (130, .one (.d (.int .i64)))], [.box [.d (.sl (.st 2)), .d (.int .i64), .d (.int .i64), .d (.int .i64), .own 3, .own 4, .own 5, .own 6, .own 7, .own 8, .own 9, .own 10, .own 11, .own 12], .box [.own 13, .own 14, .own 15, .own 2, .own 16], .row 2 (.int .i64), .row 2 (.int .i64), .row 2 (.int .i64), .row 2 (.int .i64), .row 2 (.int .i64), .row 2 (.int .i64), .row 2 (.int .i64), .row 2 (.int .i64), .row 2 (.int .i64), .row 2 (.int .i64), .row 2 (.int .i64), .row 2 (.int .i64), .row 2 (.int .i64), .row 2 (.int .i64), .row 2 (.int .i64)], []⟩ (.n))) (.ch 10 4 (.bk none (.lp ⟨[(5, .one (.box 0 0)), (6, .one (.box 1 0)), (7, .one (.d (.int .i64))), (10, .one (.d (.int .i64))), (29, .one (.d (.sl (.st 10)))), (30, .one (.d (.int .i64))), (31, .one (.d (.int .i64))), (128, .one (.own 2)), (129, .one (.d (.int .i64))), (130, .one (.d (.int .i64)))], [.box [.d (.sl (.st 2)), .d (.int .i64), .d (.int .i64), .d (.int .i64), .own 3, .own 4, .own 5, .own 6, .own 7, .own 8, .own 9, .own 10, .own 11, .own 12], .box [.own 13, .own 14, .own 15, .own 16, .own 2], .row 2 (.int .i64), .row 2 (.int .i64), .row 2 (.int .i64), .row 2 (.int .i64), .row 2 (.int .i64), .row 2 (.int .i64), .row 2 (.int .i64), .row 2 (.int .i64), .row 2 (.int .i64), .row 2 (.int .i64), .row 2 (.int .i64), .row 2 (.int .i64), .row 2 (.int .i64), .row 2 (.int .i64), .row 2 (.int .i64)], []⟩ (.n))) (.n))))))) (.sq (.rs [(10, 5)] []) (.n))) (.sq (.rs [(10, 5)] []) (.n)))))))))))))) (.n))))))) (.n))))))) Try.func6 Try.call6 rfl (by kernel_rfl) (by kernel_rfl) (by kernel_rfl) fun n x => by kernel_rfl

end
end Go.Proofs.Ytfidbgcdjmhjnaa
