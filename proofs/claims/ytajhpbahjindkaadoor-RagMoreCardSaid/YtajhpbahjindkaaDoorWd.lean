import Derived.Test.YtajhpbahjindkaaDoorRd
set_option linter.unusedVariables false
set_option linter.unusedSimpArgs false
namespace Go.Ev.Rag
open Go Go.Ev Go.Proofs
set_option maxRecDepth 1000000
set_option maxHeartbeats 0
set_option linter.unusedVariables false
noncomputable def fn16 : Func := match TE.fn 16 with | some fn => fn | none => default
noncomputable def cd16 : Code := match fn16.body with | some c => c | none => .skip
noncomputable def body16 : List Code := parts cd16
noncomputable def fr16_4 : Fr := [(6, AV.sc (Value.int IntKind.i64 0)), (5, AV.os 2 0 0 3 true false true), (33, AV.sc (Value.int IntKind.i64 0)),
  (32, AV.os 2 0 0 3 true false true), (29, AV.tuple [AV.os 2 0 0 3 true false true, AV.sc (Value.int IntKind.i64 0)]),
  (31, AV.tuple [AV.os 2 0 0 3 true false true, AV.sc (Value.int IntKind.i64 0)]),
  (30,
    AV.sl ET.str [{ data := #[97, 98] }, { data := #[97, 99] }, { data := #[98, 99] }, { data := #[97, 98, 99] }]
      false),
  (4, AV.sc (Value.int IntKind.i64 0)), (3, AV.os 1 0 0 1 true false true), (28, AV.sc (Value.int IntKind.i64 0)),
  (27, AV.os 1 0 0 1 true false true), (24, AV.tuple [AV.os 1 0 0 1 true false true, AV.sc (Value.int IntKind.i64 0)]),
  (26, AV.tuple [AV.os 1 0 0 1 true false true, AV.sc (Value.int IntKind.i64 0)]),
  (25, AV.sl ET.str [{ data := #[] }, { data := #[97] }, { data := #[97, 98] }] false),
  (2, AV.sc (Value.int IntKind.i64 0)), (1, AV.os 0 0 0 2 true false true), (23, AV.sc (Value.int IntKind.i64 0)),
  (22, AV.os 0 0 0 2 true false true), (18, AV.tuple [AV.os 0 0 0 2 true false true, AV.sc (Value.int IntKind.i64 0)]),
  (21, AV.tuple [AV.os 0 0 0 2 true false true, AV.sc (Value.int IntKind.i64 0)]),
  (20, AV.sl ET.str [{ data := #[98] }, { data := #[97] }] false),
  (19, AV.sl ET.str [{ data := #[98] }, { data := #[97] }] true), (0, AV.sc (Value.bool false))]
noncomputable def hp16_4 : Hp := [some
    {
      c :=
        [AV.run ET.str
            [{ data := (List.flatMap (fun n => (Utf8.encode n).data.toList) [Int.ofNat 97]).toArray },
              { data := (List.flatMap (fun n => (Utf8.encode n).data.toList) [Int.ofNat 98]).toArray }]],
      vr := false, ty := 9, fz := false, loose := false },
  some
    { c := [AV.run ET.str [{ data := (List.flatMap (fun n => (Utf8.encode n).data.toList) [Int.ofNat 98]).toArray }]],
      vr := false, ty := 9, fz := false, loose := false },
  some
    {
      c :=
        [AV.run ET.str
            [{ data := (List.flatMap (fun n => (Utf8.encode n).data.toList) [Int.ofNat 97]).toArray },
              { data := (List.flatMap (fun n => (Utf8.encode n).data.toList) [Int.ofNat 97, Int.ofNat 98]).toArray },
              { data := (List.flatMap (fun n => (Utf8.encode n).data.toList) [Int.ofNat 98]).toArray }]],
      vr := false, ty := 9, fz := false, loose := false }]
noncomputable def fr16_5 : Fr := [(8, AV.sc (Value.int IntKind.i64 0)), (7, AV.os 3 0 0 4 true false true), (38, AV.sc (Value.int IntKind.i64 0)),
  (37, AV.os 3 0 0 4 true false true), (34, AV.tuple [AV.os 3 0 0 4 true false true, AV.sc (Value.int IntKind.i64 0)]),
  (36, AV.tuple [AV.os 3 0 0 4 true false true, AV.sc (Value.int IntKind.i64 0)]),
  (35,
    AV.sl ET.str [{ data := #[97, 98] }, { data := #[97, 99] }, { data := #[98, 99] }, { data := #[97, 98, 99] }]
      false),
  (6, AV.sc (Value.int IntKind.i64 0)), (5, AV.os 2 0 0 3 true false true), (33, AV.sc (Value.int IntKind.i64 0)),
  (32, AV.os 2 0 0 3 true false true), (29, AV.tuple [AV.os 2 0 0 3 true false true, AV.sc (Value.int IntKind.i64 0)]),
  (31, AV.tuple [AV.os 2 0 0 3 true false true, AV.sc (Value.int IntKind.i64 0)]),
  (30,
    AV.sl ET.str [{ data := #[97, 98] }, { data := #[97, 99] }, { data := #[98, 99] }, { data := #[97, 98, 99] }]
      false),
  (4, AV.sc (Value.int IntKind.i64 0)), (3, AV.os 1 0 0 1 true false true), (28, AV.sc (Value.int IntKind.i64 0)),
  (27, AV.os 1 0 0 1 true false true), (24, AV.tuple [AV.os 1 0 0 1 true false true, AV.sc (Value.int IntKind.i64 0)]),
  (26, AV.tuple [AV.os 1 0 0 1 true false true, AV.sc (Value.int IntKind.i64 0)]),
  (25, AV.sl ET.str [{ data := #[] }, { data := #[97] }, { data := #[97, 98] }] false),
  (2, AV.sc (Value.int IntKind.i64 0)), (1, AV.os 0 0 0 2 true false true), (23, AV.sc (Value.int IntKind.i64 0)),
  (22, AV.os 0 0 0 2 true false true), (18, AV.tuple [AV.os 0 0 0 2 true false true, AV.sc (Value.int IntKind.i64 0)]),
  (21, AV.tuple [AV.os 0 0 0 2 true false true, AV.sc (Value.int IntKind.i64 0)]),
  (20, AV.sl ET.str [{ data := #[98] }, { data := #[97] }] false),
  (19, AV.sl ET.str [{ data := #[98] }, { data := #[97] }] true), (0, AV.sc (Value.bool false))]
noncomputable def hp16_5 : Hp := [some
    {
      c :=
        [AV.run ET.str
            [{ data := (List.flatMap (fun n => (Utf8.encode n).data.toList) [Int.ofNat 97]).toArray },
              { data := (List.flatMap (fun n => (Utf8.encode n).data.toList) [Int.ofNat 98]).toArray }]],
      vr := false, ty := 9, fz := false, loose := false },
  some
    { c := [AV.run ET.str [{ data := (List.flatMap (fun n => (Utf8.encode n).data.toList) [Int.ofNat 98]).toArray }]],
      vr := false, ty := 9, fz := false, loose := false },
  some
    {
      c :=
        [AV.run ET.str
            [{ data := (List.flatMap (fun n => (Utf8.encode n).data.toList) [Int.ofNat 97]).toArray },
              { data := (List.flatMap (fun n => (Utf8.encode n).data.toList) [Int.ofNat 97, Int.ofNat 98]).toArray },
              { data := (List.flatMap (fun n => (Utf8.encode n).data.toList) [Int.ofNat 98]).toArray }]],
      vr := false, ty := 9, fz := false, loose := false },
  some
    {
      c :=
        [AV.run ET.str
            [{ data := (List.flatMap (fun n => (Utf8.encode n).data.toList) []).toArray },
              { data := (List.flatMap (fun n => (Utf8.encode n).data.toList) [Int.ofNat 97]).toArray },
              { data := (List.flatMap (fun n => (Utf8.encode n).data.toList) [Int.ofNat 98]).toArray },
              { data := (List.flatMap (fun n => (Utf8.encode n).data.toList) [Int.ofNat 99]).toArray }]],
      vr := false, ty := 9, fz := false, loose := false }]
noncomputable def fr16_8 : Fr := [(14, AV.sc (Value.int IntKind.i64 0)),
  (13, AV.sc (Value.string { data := (List.flatMap (fun n => (Utf8.encode n).data.toList) [Int.ofNat 98]).toArray })),
  (53, AV.sc (Value.int IntKind.i64 0)),
  (52, AV.sc (Value.string { data := (List.flatMap (fun n => (Utf8.encode n).data.toList) [Int.ofNat 98]).toArray })),
  (49,
    AV.tuple
      [AV.sc (Value.string { data := (List.flatMap (fun n => (Utf8.encode n).data.toList) [Int.ofNat 98]).toArray }),
        AV.sc (Value.int IntKind.i64 0)]),
  (51,
    AV.tuple
      [AV.sc (Value.string { data := (List.flatMap (fun n => (Utf8.encode n).data.toList) [Int.ofNat 98]).toArray }),
        AV.sc (Value.int IntKind.i64 0)]),
  (50, AV.sl ET.str [{ data := #[] }, { data := #[97] }, { data := #[97, 98] }] false),
  (12, AV.sc (Value.int IntKind.i64 0)), (11, AV.sc (Value.int IntKind.i64 1)), (48, AV.sc (Value.int IntKind.i64 0)),
  (47, AV.sc (Value.int IntKind.i64 1)),
  (44, AV.tuple [AV.sc (Value.int IntKind.i64 1), AV.sc (Value.int IntKind.i64 0)]),
  (46, AV.tuple [AV.sc (Value.int IntKind.i64 1), AV.sc (Value.int IntKind.i64 0)]),
  (45, AV.sl ET.str [{ data := #[] }, { data := #[97] }, { data := #[97, 98] }] false),
  (10, AV.sc (Value.int IntKind.i64 0)), (9, AV.os 4 0 0 3 true false true), (43, AV.sc (Value.int IntKind.i64 0)),
  (42, AV.os 4 0 0 3 true false true), (39, AV.tuple [AV.os 4 0 0 3 true false true, AV.sc (Value.int IntKind.i64 0)]),
  (41, AV.tuple [AV.os 4 0 0 3 true false true, AV.sc (Value.int IntKind.i64 0)]),
  (40, AV.sl ET.str [{ data := #[] }, { data := #[97] }, { data := #[97, 98] }] false),
  (8, AV.sc (Value.int IntKind.i64 0)), (7, AV.os 3 0 0 4 true false true), (38, AV.sc (Value.int IntKind.i64 0)),
  (37, AV.os 3 0 0 4 true false true), (34, AV.tuple [AV.os 3 0 0 4 true false true, AV.sc (Value.int IntKind.i64 0)]),
  (36, AV.tuple [AV.os 3 0 0 4 true false true, AV.sc (Value.int IntKind.i64 0)]),
  (35,
    AV.sl ET.str [{ data := #[97, 98] }, { data := #[97, 99] }, { data := #[98, 99] }, { data := #[97, 98, 99] }]
      false),
  (6, AV.sc (Value.int IntKind.i64 0)), (5, AV.os 2 0 0 3 true false true), (33, AV.sc (Value.int IntKind.i64 0)),
  (32, AV.os 2 0 0 3 true false true), (29, AV.tuple [AV.os 2 0 0 3 true false true, AV.sc (Value.int IntKind.i64 0)]),
  (31, AV.tuple [AV.os 2 0 0 3 true false true, AV.sc (Value.int IntKind.i64 0)]),
  (30,
    AV.sl ET.str [{ data := #[97, 98] }, { data := #[97, 99] }, { data := #[98, 99] }, { data := #[97, 98, 99] }]
      false),
  (4, AV.sc (Value.int IntKind.i64 0)), (3, AV.os 1 0 0 1 true false true), (28, AV.sc (Value.int IntKind.i64 0)),
  (27, AV.os 1 0 0 1 true false true), (24, AV.tuple [AV.os 1 0 0 1 true false true, AV.sc (Value.int IntKind.i64 0)]),
  (26, AV.tuple [AV.os 1 0 0 1 true false true, AV.sc (Value.int IntKind.i64 0)]),
  (25, AV.sl ET.str [{ data := #[] }, { data := #[97] }, { data := #[97, 98] }] false),
  (2, AV.sc (Value.int IntKind.i64 0)), (1, AV.os 0 0 0 2 true false true), (23, AV.sc (Value.int IntKind.i64 0)),
  (22, AV.os 0 0 0 2 true false true), (18, AV.tuple [AV.os 0 0 0 2 true false true, AV.sc (Value.int IntKind.i64 0)]),
  (21, AV.tuple [AV.os 0 0 0 2 true false true, AV.sc (Value.int IntKind.i64 0)]),
  (20, AV.sl ET.str [{ data := #[98] }, { data := #[97] }] false),
  (19, AV.sl ET.str [{ data := #[98] }, { data := #[97] }] true), (0, AV.sc (Value.bool false))]
noncomputable def hp16_8 : Hp := [some
    {
      c :=
        [AV.run ET.str
            [{ data := (List.flatMap (fun n => (Utf8.encode n).data.toList) [Int.ofNat 97]).toArray },
              { data := (List.flatMap (fun n => (Utf8.encode n).data.toList) [Int.ofNat 98]).toArray }]],
      vr := false, ty := 9, fz := false, loose := false },
  some
    { c := [AV.run ET.str [{ data := (List.flatMap (fun n => (Utf8.encode n).data.toList) [Int.ofNat 98]).toArray }]],
      vr := false, ty := 9, fz := false, loose := false },
  some
    {
      c :=
        [AV.run ET.str
            [{ data := (List.flatMap (fun n => (Utf8.encode n).data.toList) [Int.ofNat 97]).toArray },
              { data := (List.flatMap (fun n => (Utf8.encode n).data.toList) [Int.ofNat 97, Int.ofNat 98]).toArray },
              { data := (List.flatMap (fun n => (Utf8.encode n).data.toList) [Int.ofNat 98]).toArray }]],
      vr := false, ty := 9, fz := false, loose := false },
  some
    {
      c :=
        [AV.run ET.str
            [{ data := (List.flatMap (fun n => (Utf8.encode n).data.toList) []).toArray },
              { data := (List.flatMap (fun n => (Utf8.encode n).data.toList) [Int.ofNat 97]).toArray },
              { data := (List.flatMap (fun n => (Utf8.encode n).data.toList) [Int.ofNat 98]).toArray },
              { data := (List.flatMap (fun n => (Utf8.encode n).data.toList) [Int.ofNat 99]).toArray }]],
      vr := false, ty := 9, fz := false, loose := false },
  some
    {
      c :=
        [AV.run ET.str
            [{ data := (List.flatMap (fun n => (Utf8.encode n).data.toList) []).toArray },
              { data := (List.flatMap (fun n => (Utf8.encode n).data.toList) [Int.ofNat 97]).toArray },
              { data := (List.flatMap (fun n => (Utf8.encode n).data.toList) [Int.ofNat 98]).toArray }]],
      vr := false, ty := 9, fz := false, loose := false }]
noncomputable def fr16_11 : Fr := [(2, AV.sc (Value.int IntKind.i64 0)), (15, AV.os 5 0 0 3 true false true), (84, AV.sc (Value.int IntKind.i64 0)),
  (83, AV.os 5 0 0 3 true false true), (80, AV.tuple [AV.os 5 0 0 3 true false true, AV.sc (Value.int IntKind.i64 0)]),
  (82, AV.tuple [AV.os 5 0 0 3 true false true, AV.sc (Value.int IntKind.i64 0)]),
  (81, AV.sl ET.str [{ data := #[] }, { data := #[97] }, { data := #[97, 98] }] false), (79, AV.sc (Value.bool false)),
  (79, AV.sc (Value.bool false)), (76, AV.sc (Value.bool false)), (78, AV.sc (Value.bool false)),
  (76, AV.sc (Value.bool false)), (77, AV.sc (Value.int IntKind.i64 0)), (76, AV.sc (Value.bool false)),
  (76, AV.sc (Value.bool false)), (75, AV.sc (Value.bool false)), (72, AV.sc (Value.bool false)),
  (74, AV.sc (Value.bool false)), (72, AV.sc (Value.bool false)), (73, AV.sc (Value.int IntKind.i64 0)),
  (72, AV.sc (Value.bool false)), (72, AV.sc (Value.bool false)), (71, AV.sc (Value.bool false)),
  (68, AV.sc (Value.bool false)), (70, AV.sc (Value.bool false)), (68, AV.sc (Value.bool false)),
  (69, AV.sc (Value.int IntKind.i64 0)), (68, AV.sc (Value.bool false)), (68, AV.sc (Value.bool false)),
  (67, AV.sc (Value.bool false)), (64, AV.sc (Value.bool false)), (66, AV.sc (Value.bool false)),
  (64, AV.sc (Value.bool false)), (65, AV.sc (Value.int IntKind.i64 0)), (64, AV.sc (Value.bool false)),
  (64, AV.sc (Value.bool false)), (63, AV.sc (Value.bool false)), (60, AV.sc (Value.bool false)),
  (62, AV.sc (Value.bool false)), (60, AV.sc (Value.bool false)), (61, AV.sc (Value.int IntKind.i64 0)),
  (60, AV.sc (Value.bool false)), (60, AV.sc (Value.bool false)), (59, AV.sc (Value.bool false)),
  (56, AV.sc (Value.bool false)), (58, AV.sc (Value.bool false)), (56, AV.sc (Value.bool false)),
  (57, AV.sc (Value.int IntKind.i64 0)), (56, AV.sc (Value.bool false)), (56, AV.sc (Value.bool false)),
  (55, AV.sc (Value.bool false)), (54, AV.sc (Value.int IntKind.i64 0)), (14, AV.sc (Value.int IntKind.i64 0)),
  (13, AV.sc (Value.string { data := (List.flatMap (fun n => (Utf8.encode n).data.toList) [Int.ofNat 98]).toArray })),
  (53, AV.sc (Value.int IntKind.i64 0)),
  (52, AV.sc (Value.string { data := (List.flatMap (fun n => (Utf8.encode n).data.toList) [Int.ofNat 98]).toArray })),
  (49,
    AV.tuple
      [AV.sc (Value.string { data := (List.flatMap (fun n => (Utf8.encode n).data.toList) [Int.ofNat 98]).toArray }),
        AV.sc (Value.int IntKind.i64 0)]),
  (51,
    AV.tuple
      [AV.sc (Value.string { data := (List.flatMap (fun n => (Utf8.encode n).data.toList) [Int.ofNat 98]).toArray }),
        AV.sc (Value.int IntKind.i64 0)]),
  (50, AV.sl ET.str [{ data := #[] }, { data := #[97] }, { data := #[97, 98] }] false),
  (12, AV.sc (Value.int IntKind.i64 0)), (11, AV.sc (Value.int IntKind.i64 1)), (48, AV.sc (Value.int IntKind.i64 0)),
  (47, AV.sc (Value.int IntKind.i64 1)),
  (44, AV.tuple [AV.sc (Value.int IntKind.i64 1), AV.sc (Value.int IntKind.i64 0)]),
  (46, AV.tuple [AV.sc (Value.int IntKind.i64 1), AV.sc (Value.int IntKind.i64 0)]),
  (45, AV.sl ET.str [{ data := #[] }, { data := #[97] }, { data := #[97, 98] }] false),
  (10, AV.sc (Value.int IntKind.i64 0)), (9, AV.os 4 0 0 3 true false true), (43, AV.sc (Value.int IntKind.i64 0)),
  (42, AV.os 4 0 0 3 true false true), (39, AV.tuple [AV.os 4 0 0 3 true false true, AV.sc (Value.int IntKind.i64 0)]),
  (41, AV.tuple [AV.os 4 0 0 3 true false true, AV.sc (Value.int IntKind.i64 0)]),
  (40, AV.sl ET.str [{ data := #[] }, { data := #[97] }, { data := #[97, 98] }] false),
  (8, AV.sc (Value.int IntKind.i64 0)), (7, AV.os 3 0 0 4 true false true), (38, AV.sc (Value.int IntKind.i64 0)),
  (37, AV.os 3 0 0 4 true false true), (34, AV.tuple [AV.os 3 0 0 4 true false true, AV.sc (Value.int IntKind.i64 0)]),
  (36, AV.tuple [AV.os 3 0 0 4 true false true, AV.sc (Value.int IntKind.i64 0)]),
  (35,
    AV.sl ET.str [{ data := #[97, 98] }, { data := #[97, 99] }, { data := #[98, 99] }, { data := #[97, 98, 99] }]
      false),
  (6, AV.sc (Value.int IntKind.i64 0)), (5, AV.os 2 0 0 3 true false true), (33, AV.sc (Value.int IntKind.i64 0)),
  (32, AV.os 2 0 0 3 true false true), (29, AV.tuple [AV.os 2 0 0 3 true false true, AV.sc (Value.int IntKind.i64 0)]),
  (31, AV.tuple [AV.os 2 0 0 3 true false true, AV.sc (Value.int IntKind.i64 0)]),
  (30,
    AV.sl ET.str [{ data := #[97, 98] }, { data := #[97, 99] }, { data := #[98, 99] }, { data := #[97, 98, 99] }]
      false),
  (4, AV.sc (Value.int IntKind.i64 0)), (3, AV.os 1 0 0 1 true false true), (28, AV.sc (Value.int IntKind.i64 0)),
  (27, AV.os 1 0 0 1 true false true), (24, AV.tuple [AV.os 1 0 0 1 true false true, AV.sc (Value.int IntKind.i64 0)]),
  (26, AV.tuple [AV.os 1 0 0 1 true false true, AV.sc (Value.int IntKind.i64 0)]),
  (25, AV.sl ET.str [{ data := #[] }, { data := #[97] }, { data := #[97, 98] }] false),
  (2, AV.sc (Value.int IntKind.i64 0)), (1, AV.os 0 0 0 2 true false true), (23, AV.sc (Value.int IntKind.i64 0)),
  (22, AV.os 0 0 0 2 true false true), (18, AV.tuple [AV.os 0 0 0 2 true false true, AV.sc (Value.int IntKind.i64 0)]),
  (21, AV.tuple [AV.os 0 0 0 2 true false true, AV.sc (Value.int IntKind.i64 0)]),
  (20, AV.sl ET.str [{ data := #[98] }, { data := #[97] }] false),
  (19, AV.sl ET.str [{ data := #[98] }, { data := #[97] }] true), (0, AV.sc (Value.bool false))]
noncomputable def hp16_11 : Hp := [some
    {
      c :=
        [AV.run ET.str
            [{ data := (List.flatMap (fun n => (Utf8.encode n).data.toList) [Int.ofNat 97]).toArray },
              { data := (List.flatMap (fun n => (Utf8.encode n).data.toList) [Int.ofNat 98]).toArray }]],
      vr := false, ty := 9, fz := false, loose := false },
  some
    { c := [AV.run ET.str [{ data := (List.flatMap (fun n => (Utf8.encode n).data.toList) [Int.ofNat 98]).toArray }]],
      vr := false, ty := 9, fz := false, loose := false },
  some
    {
      c :=
        [AV.run ET.str
            [{ data := (List.flatMap (fun n => (Utf8.encode n).data.toList) [Int.ofNat 97]).toArray },
              { data := (List.flatMap (fun n => (Utf8.encode n).data.toList) [Int.ofNat 97, Int.ofNat 98]).toArray },
              { data := (List.flatMap (fun n => (Utf8.encode n).data.toList) [Int.ofNat 98]).toArray }]],
      vr := false, ty := 9, fz := false, loose := false },
  some
    {
      c :=
        [AV.run ET.str
            [{ data := (List.flatMap (fun n => (Utf8.encode n).data.toList) []).toArray },
              { data := (List.flatMap (fun n => (Utf8.encode n).data.toList) [Int.ofNat 97]).toArray },
              { data := (List.flatMap (fun n => (Utf8.encode n).data.toList) [Int.ofNat 98]).toArray },
              { data := (List.flatMap (fun n => (Utf8.encode n).data.toList) [Int.ofNat 99]).toArray }]],
      vr := false, ty := 9, fz := false, loose := false },
  some
    {
      c :=
        [AV.run ET.str
            [{ data := (List.flatMap (fun n => (Utf8.encode n).data.toList) []).toArray },
              { data := (List.flatMap (fun n => (Utf8.encode n).data.toList) [Int.ofNat 97]).toArray },
              { data := (List.flatMap (fun n => (Utf8.encode n).data.toList) [Int.ofNat 98]).toArray }]],
      vr := false, ty := 9, fz := false, loose := false },
  some
    {
      c :=
        [AV.run ET.str
            [{ data := (List.flatMap (fun n => (Utf8.encode n).data.toList) []).toArray },
              { data := (List.flatMap (fun n => (Utf8.encode n).data.toList) [Int.ofNat 97]).toArray },
              { data := (List.flatMap (fun n => (Utf8.encode n).data.toList) [Int.ofNat 98]).toArray }]],
      vr := false, ty := 9, fz := false, loose := false }]
noncomputable def fr16_13 : Fr := [(6, AV.sc (Value.int IntKind.i64 0)), (17, AV.sc (Value.int IntKind.i64 16)), (93, AV.sc (Value.int IntKind.i64 0)),
  (92, AV.sc (Value.int IntKind.i64 16)),
  (90, AV.tuple [AV.sc (Value.int IntKind.i64 16), AV.sc (Value.int IntKind.i64 0)]),
  (91, AV.tuple [AV.sc (Value.int IntKind.i64 16), AV.sc (Value.int IntKind.i64 0)]),
  (4, AV.sc (Value.int IntKind.i64 0)), (16, AV.os 6 0 0 4 true false true), (89, AV.sc (Value.int IntKind.i64 0)),
  (88, AV.os 6 0 0 4 true false true), (85, AV.tuple [AV.os 6 0 0 4 true false true, AV.sc (Value.int IntKind.i64 0)]),
  (87, AV.tuple [AV.os 6 0 0 4 true false true, AV.sc (Value.int IntKind.i64 0)]),
  (86,
    AV.sl ET.str [{ data := #[97, 98] }, { data := #[97, 99] }, { data := #[98, 99] }, { data := #[97, 98, 99] }]
      false),
  (2, AV.sc (Value.int IntKind.i64 0)), (15, AV.os 5 0 0 3 true false true), (84, AV.sc (Value.int IntKind.i64 0)),
  (83, AV.os 5 0 0 3 true false true), (80, AV.tuple [AV.os 5 0 0 3 true false true, AV.sc (Value.int IntKind.i64 0)]),
  (82, AV.tuple [AV.os 5 0 0 3 true false true, AV.sc (Value.int IntKind.i64 0)]),
  (81, AV.sl ET.str [{ data := #[] }, { data := #[97] }, { data := #[97, 98] }] false), (79, AV.sc (Value.bool false)),
  (79, AV.sc (Value.bool false)), (76, AV.sc (Value.bool false)), (78, AV.sc (Value.bool false)),
  (76, AV.sc (Value.bool false)), (77, AV.sc (Value.int IntKind.i64 0)), (76, AV.sc (Value.bool false)),
  (76, AV.sc (Value.bool false)), (75, AV.sc (Value.bool false)), (72, AV.sc (Value.bool false)),
  (74, AV.sc (Value.bool false)), (72, AV.sc (Value.bool false)), (73, AV.sc (Value.int IntKind.i64 0)),
  (72, AV.sc (Value.bool false)), (72, AV.sc (Value.bool false)), (71, AV.sc (Value.bool false)),
  (68, AV.sc (Value.bool false)), (70, AV.sc (Value.bool false)), (68, AV.sc (Value.bool false)),
  (69, AV.sc (Value.int IntKind.i64 0)), (68, AV.sc (Value.bool false)), (68, AV.sc (Value.bool false)),
  (67, AV.sc (Value.bool false)), (64, AV.sc (Value.bool false)), (66, AV.sc (Value.bool false)),
  (64, AV.sc (Value.bool false)), (65, AV.sc (Value.int IntKind.i64 0)), (64, AV.sc (Value.bool false)),
  (64, AV.sc (Value.bool false)), (63, AV.sc (Value.bool false)), (60, AV.sc (Value.bool false)),
  (62, AV.sc (Value.bool false)), (60, AV.sc (Value.bool false)), (61, AV.sc (Value.int IntKind.i64 0)),
  (60, AV.sc (Value.bool false)), (60, AV.sc (Value.bool false)), (59, AV.sc (Value.bool false)),
  (56, AV.sc (Value.bool false)), (58, AV.sc (Value.bool false)), (56, AV.sc (Value.bool false)),
  (57, AV.sc (Value.int IntKind.i64 0)), (56, AV.sc (Value.bool false)), (56, AV.sc (Value.bool false)),
  (55, AV.sc (Value.bool false)), (54, AV.sc (Value.int IntKind.i64 0)), (14, AV.sc (Value.int IntKind.i64 0)),
  (13, AV.sc (Value.string { data := (List.flatMap (fun n => (Utf8.encode n).data.toList) [Int.ofNat 98]).toArray })),
  (53, AV.sc (Value.int IntKind.i64 0)),
  (52, AV.sc (Value.string { data := (List.flatMap (fun n => (Utf8.encode n).data.toList) [Int.ofNat 98]).toArray })),
  (49,
    AV.tuple
      [AV.sc (Value.string { data := (List.flatMap (fun n => (Utf8.encode n).data.toList) [Int.ofNat 98]).toArray }),
        AV.sc (Value.int IntKind.i64 0)]),
  (51,
    AV.tuple
      [AV.sc (Value.string { data := (List.flatMap (fun n => (Utf8.encode n).data.toList) [Int.ofNat 98]).toArray }),
        AV.sc (Value.int IntKind.i64 0)]),
  (50, AV.sl ET.str [{ data := #[] }, { data := #[97] }, { data := #[97, 98] }] false),
  (12, AV.sc (Value.int IntKind.i64 0)), (11, AV.sc (Value.int IntKind.i64 1)), (48, AV.sc (Value.int IntKind.i64 0)),
  (47, AV.sc (Value.int IntKind.i64 1)),
  (44, AV.tuple [AV.sc (Value.int IntKind.i64 1), AV.sc (Value.int IntKind.i64 0)]),
  (46, AV.tuple [AV.sc (Value.int IntKind.i64 1), AV.sc (Value.int IntKind.i64 0)]),
  (45, AV.sl ET.str [{ data := #[] }, { data := #[97] }, { data := #[97, 98] }] false),
  (10, AV.sc (Value.int IntKind.i64 0)), (9, AV.os 4 0 0 3 true false true), (43, AV.sc (Value.int IntKind.i64 0)),
  (42, AV.os 4 0 0 3 true false true), (39, AV.tuple [AV.os 4 0 0 3 true false true, AV.sc (Value.int IntKind.i64 0)]),
  (41, AV.tuple [AV.os 4 0 0 3 true false true, AV.sc (Value.int IntKind.i64 0)]),
  (40, AV.sl ET.str [{ data := #[] }, { data := #[97] }, { data := #[97, 98] }] false),
  (8, AV.sc (Value.int IntKind.i64 0)), (7, AV.os 3 0 0 4 true false true), (38, AV.sc (Value.int IntKind.i64 0)),
  (37, AV.os 3 0 0 4 true false true), (34, AV.tuple [AV.os 3 0 0 4 true false true, AV.sc (Value.int IntKind.i64 0)]),
  (36, AV.tuple [AV.os 3 0 0 4 true false true, AV.sc (Value.int IntKind.i64 0)]),
  (35,
    AV.sl ET.str [{ data := #[97, 98] }, { data := #[97, 99] }, { data := #[98, 99] }, { data := #[97, 98, 99] }]
      false),
  (6, AV.sc (Value.int IntKind.i64 0)), (5, AV.os 2 0 0 3 true false true), (33, AV.sc (Value.int IntKind.i64 0)),
  (32, AV.os 2 0 0 3 true false true), (29, AV.tuple [AV.os 2 0 0 3 true false true, AV.sc (Value.int IntKind.i64 0)]),
  (31, AV.tuple [AV.os 2 0 0 3 true false true, AV.sc (Value.int IntKind.i64 0)]),
  (30,
    AV.sl ET.str [{ data := #[97, 98] }, { data := #[97, 99] }, { data := #[98, 99] }, { data := #[97, 98, 99] }]
      false),
  (4, AV.sc (Value.int IntKind.i64 0)), (3, AV.os 1 0 0 1 true false true), (28, AV.sc (Value.int IntKind.i64 0)),
  (27, AV.os 1 0 0 1 true false true), (24, AV.tuple [AV.os 1 0 0 1 true false true, AV.sc (Value.int IntKind.i64 0)]),
  (26, AV.tuple [AV.os 1 0 0 1 true false true, AV.sc (Value.int IntKind.i64 0)]),
  (25, AV.sl ET.str [{ data := #[] }, { data := #[97] }, { data := #[97, 98] }] false),
  (2, AV.sc (Value.int IntKind.i64 0)), (1, AV.os 0 0 0 2 true false true), (23, AV.sc (Value.int IntKind.i64 0)),
  (22, AV.os 0 0 0 2 true false true), (18, AV.tuple [AV.os 0 0 0 2 true false true, AV.sc (Value.int IntKind.i64 0)]),
  (21, AV.tuple [AV.os 0 0 0 2 true false true, AV.sc (Value.int IntKind.i64 0)]),
  (20, AV.sl ET.str [{ data := #[98] }, { data := #[97] }] false),
  (19, AV.sl ET.str [{ data := #[98] }, { data := #[97] }] true), (0, AV.sc (Value.bool false))]
noncomputable def hp16_13 : Hp := [some
    {
      c :=
        [AV.run ET.str
            [{ data := (List.flatMap (fun n => (Utf8.encode n).data.toList) [Int.ofNat 97]).toArray },
              { data := (List.flatMap (fun n => (Utf8.encode n).data.toList) [Int.ofNat 98]).toArray }]],
      vr := false, ty := 9, fz := false, loose := false },
  some
    { c := [AV.run ET.str [{ data := (List.flatMap (fun n => (Utf8.encode n).data.toList) [Int.ofNat 98]).toArray }]],
      vr := false, ty := 9, fz := false, loose := false },
  some
    {
      c :=
        [AV.run ET.str
            [{ data := (List.flatMap (fun n => (Utf8.encode n).data.toList) [Int.ofNat 97]).toArray },
              { data := (List.flatMap (fun n => (Utf8.encode n).data.toList) [Int.ofNat 97, Int.ofNat 98]).toArray },
              { data := (List.flatMap (fun n => (Utf8.encode n).data.toList) [Int.ofNat 98]).toArray }]],
      vr := false, ty := 9, fz := false, loose := false },
  some
    {
      c :=
        [AV.run ET.str
            [{ data := (List.flatMap (fun n => (Utf8.encode n).data.toList) []).toArray },
              { data := (List.flatMap (fun n => (Utf8.encode n).data.toList) [Int.ofNat 97]).toArray },
              { data := (List.flatMap (fun n => (Utf8.encode n).data.toList) [Int.ofNat 98]).toArray },
              { data := (List.flatMap (fun n => (Utf8.encode n).data.toList) [Int.ofNat 99]).toArray }]],
      vr := false, ty := 9, fz := false, loose := false },
  some
    {
      c :=
        [AV.run ET.str
            [{ data := (List.flatMap (fun n => (Utf8.encode n).data.toList) []).toArray },
              { data := (List.flatMap (fun n => (Utf8.encode n).data.toList) [Int.ofNat 97]).toArray },
              { data := (List.flatMap (fun n => (Utf8.encode n).data.toList) [Int.ofNat 98]).toArray }]],
      vr := false, ty := 9, fz := false, loose := false },
  some
    {
      c :=
        [AV.run ET.str
            [{ data := (List.flatMap (fun n => (Utf8.encode n).data.toList) []).toArray },
              { data := (List.flatMap (fun n => (Utf8.encode n).data.toList) [Int.ofNat 97]).toArray },
              { data := (List.flatMap (fun n => (Utf8.encode n).data.toList) [Int.ofNat 98]).toArray }]],
      vr := false, ty := 9, fz := false, loose := false },
  some
    {
      c :=
        [AV.run ET.str
            [{ data := (List.flatMap (fun n => (Utf8.encode n).data.toList) []).toArray },
              { data := (List.flatMap (fun n => (Utf8.encode n).data.toList) [Int.ofNat 97]).toArray },
              { data := (List.flatMap (fun n => (Utf8.encode n).data.toList) [Int.ofNat 98]).toArray },
              { data := (List.flatMap (fun n => (Utf8.encode n).data.toList) [Int.ofNat 99]).toArray }]],
      vr := false, ty := 9, fz := false, loose := false }]
noncomputable def fr16_16 : Fr := [(12, AV.sc (Value.int IntKind.i64 2)), (107, AV.sc (Value.int IntKind.i64 2)), (106, AV.os 7 0 0 0 true false true),
  (103, AV.tuple [AV.os 7 0 0 0 true false true, AV.sc (Value.int IntKind.i64 2)]),
  (105, AV.tuple [AV.os 7 0 0 0 true false true, AV.sc (Value.int IntKind.i64 2)]),
  (104, AV.sl ET.str [{ data := #[] }, { data := #[97] }, { data := #[97, 98] }] false),
  (10, AV.sc (Value.int IntKind.i64 13)), (102, AV.sc (Value.int IntKind.i64 13)),
  (101, AV.sc (Value.string { data := #[] })),
  (98, AV.tuple [AV.sc (Value.string { data := #[] }), AV.sc (Value.int IntKind.i64 13)]),
  (100, AV.tuple [AV.sc (Value.string { data := #[] }), AV.sc (Value.int IntKind.i64 13)]),
  (99, AV.sl ET.str [{ data := #[] }, { data := #[97] }, { data := #[97, 98] }] false),
  (8, AV.sc (Value.int IntKind.i64 4)), (97, AV.sc (Value.int IntKind.i64 4)), (96, AV.sc (Value.int IntKind.i64 0)),
  (94, AV.tuple [AV.sc (Value.int IntKind.i64 0), AV.sc (Value.int IntKind.i64 4)]),
  (95, AV.tuple [AV.sc (Value.int IntKind.i64 0), AV.sc (Value.int IntKind.i64 4)]),
  (6, AV.sc (Value.int IntKind.i64 0)), (17, AV.sc (Value.int IntKind.i64 16)), (93, AV.sc (Value.int IntKind.i64 0)),
  (92, AV.sc (Value.int IntKind.i64 16)),
  (90, AV.tuple [AV.sc (Value.int IntKind.i64 16), AV.sc (Value.int IntKind.i64 0)]),
  (91, AV.tuple [AV.sc (Value.int IntKind.i64 16), AV.sc (Value.int IntKind.i64 0)]),
  (4, AV.sc (Value.int IntKind.i64 0)), (16, AV.os 6 0 0 4 true false true), (89, AV.sc (Value.int IntKind.i64 0)),
  (88, AV.os 6 0 0 4 true false true), (85, AV.tuple [AV.os 6 0 0 4 true false true, AV.sc (Value.int IntKind.i64 0)]),
  (87, AV.tuple [AV.os 6 0 0 4 true false true, AV.sc (Value.int IntKind.i64 0)]),
  (86,
    AV.sl ET.str [{ data := #[97, 98] }, { data := #[97, 99] }, { data := #[98, 99] }, { data := #[97, 98, 99] }]
      false),
  (2, AV.sc (Value.int IntKind.i64 0)), (15, AV.os 5 0 0 3 true false true), (84, AV.sc (Value.int IntKind.i64 0)),
  (83, AV.os 5 0 0 3 true false true), (80, AV.tuple [AV.os 5 0 0 3 true false true, AV.sc (Value.int IntKind.i64 0)]),
  (82, AV.tuple [AV.os 5 0 0 3 true false true, AV.sc (Value.int IntKind.i64 0)]),
  (81, AV.sl ET.str [{ data := #[] }, { data := #[97] }, { data := #[97, 98] }] false), (79, AV.sc (Value.bool false)),
  (79, AV.sc (Value.bool false)), (76, AV.sc (Value.bool false)), (78, AV.sc (Value.bool false)),
  (76, AV.sc (Value.bool false)), (77, AV.sc (Value.int IntKind.i64 0)), (76, AV.sc (Value.bool false)),
  (76, AV.sc (Value.bool false)), (75, AV.sc (Value.bool false)), (72, AV.sc (Value.bool false)),
  (74, AV.sc (Value.bool false)), (72, AV.sc (Value.bool false)), (73, AV.sc (Value.int IntKind.i64 0)),
  (72, AV.sc (Value.bool false)), (72, AV.sc (Value.bool false)), (71, AV.sc (Value.bool false)),
  (68, AV.sc (Value.bool false)), (70, AV.sc (Value.bool false)), (68, AV.sc (Value.bool false)),
  (69, AV.sc (Value.int IntKind.i64 0)), (68, AV.sc (Value.bool false)), (68, AV.sc (Value.bool false)),
  (67, AV.sc (Value.bool false)), (64, AV.sc (Value.bool false)), (66, AV.sc (Value.bool false)),
  (64, AV.sc (Value.bool false)), (65, AV.sc (Value.int IntKind.i64 0)), (64, AV.sc (Value.bool false)),
  (64, AV.sc (Value.bool false)), (63, AV.sc (Value.bool false)), (60, AV.sc (Value.bool false)),
  (62, AV.sc (Value.bool false)), (60, AV.sc (Value.bool false)), (61, AV.sc (Value.int IntKind.i64 0)),
  (60, AV.sc (Value.bool false)), (60, AV.sc (Value.bool false)), (59, AV.sc (Value.bool false)),
  (56, AV.sc (Value.bool false)), (58, AV.sc (Value.bool false)), (56, AV.sc (Value.bool false)),
  (57, AV.sc (Value.int IntKind.i64 0)), (56, AV.sc (Value.bool false)), (56, AV.sc (Value.bool false)),
  (55, AV.sc (Value.bool false)), (54, AV.sc (Value.int IntKind.i64 0)), (14, AV.sc (Value.int IntKind.i64 0)),
  (13, AV.sc (Value.string { data := (List.flatMap (fun n => (Utf8.encode n).data.toList) [Int.ofNat 98]).toArray })),
  (53, AV.sc (Value.int IntKind.i64 0)),
  (52, AV.sc (Value.string { data := (List.flatMap (fun n => (Utf8.encode n).data.toList) [Int.ofNat 98]).toArray })),
  (49,
    AV.tuple
      [AV.sc (Value.string { data := (List.flatMap (fun n => (Utf8.encode n).data.toList) [Int.ofNat 98]).toArray }),
        AV.sc (Value.int IntKind.i64 0)]),
  (51,
    AV.tuple
      [AV.sc (Value.string { data := (List.flatMap (fun n => (Utf8.encode n).data.toList) [Int.ofNat 98]).toArray }),
        AV.sc (Value.int IntKind.i64 0)]),
  (50, AV.sl ET.str [{ data := #[] }, { data := #[97] }, { data := #[97, 98] }] false),
  (12, AV.sc (Value.int IntKind.i64 0)), (11, AV.sc (Value.int IntKind.i64 1)), (48, AV.sc (Value.int IntKind.i64 0)),
  (47, AV.sc (Value.int IntKind.i64 1)),
  (44, AV.tuple [AV.sc (Value.int IntKind.i64 1), AV.sc (Value.int IntKind.i64 0)]),
  (46, AV.tuple [AV.sc (Value.int IntKind.i64 1), AV.sc (Value.int IntKind.i64 0)]),
  (45, AV.sl ET.str [{ data := #[] }, { data := #[97] }, { data := #[97, 98] }] false),
  (10, AV.sc (Value.int IntKind.i64 0)), (9, AV.os 4 0 0 3 true false true), (43, AV.sc (Value.int IntKind.i64 0)),
  (42, AV.os 4 0 0 3 true false true), (39, AV.tuple [AV.os 4 0 0 3 true false true, AV.sc (Value.int IntKind.i64 0)]),
  (41, AV.tuple [AV.os 4 0 0 3 true false true, AV.sc (Value.int IntKind.i64 0)]),
  (40, AV.sl ET.str [{ data := #[] }, { data := #[97] }, { data := #[97, 98] }] false),
  (8, AV.sc (Value.int IntKind.i64 0)), (7, AV.os 3 0 0 4 true false true), (38, AV.sc (Value.int IntKind.i64 0)),
  (37, AV.os 3 0 0 4 true false true), (34, AV.tuple [AV.os 3 0 0 4 true false true, AV.sc (Value.int IntKind.i64 0)]),
  (36, AV.tuple [AV.os 3 0 0 4 true false true, AV.sc (Value.int IntKind.i64 0)]),
  (35,
    AV.sl ET.str [{ data := #[97, 98] }, { data := #[97, 99] }, { data := #[98, 99] }, { data := #[97, 98, 99] }]
      false),
  (6, AV.sc (Value.int IntKind.i64 0)), (5, AV.os 2 0 0 3 true false true), (33, AV.sc (Value.int IntKind.i64 0)),
  (32, AV.os 2 0 0 3 true false true), (29, AV.tuple [AV.os 2 0 0 3 true false true, AV.sc (Value.int IntKind.i64 0)]),
  (31, AV.tuple [AV.os 2 0 0 3 true false true, AV.sc (Value.int IntKind.i64 0)]),
  (30,
    AV.sl ET.str [{ data := #[97, 98] }, { data := #[97, 99] }, { data := #[98, 99] }, { data := #[97, 98, 99] }]
      false),
  (4, AV.sc (Value.int IntKind.i64 0)), (3, AV.os 1 0 0 1 true false true), (28, AV.sc (Value.int IntKind.i64 0)),
  (27, AV.os 1 0 0 1 true false true), (24, AV.tuple [AV.os 1 0 0 1 true false true, AV.sc (Value.int IntKind.i64 0)]),
  (26, AV.tuple [AV.os 1 0 0 1 true false true, AV.sc (Value.int IntKind.i64 0)]),
  (25, AV.sl ET.str [{ data := #[] }, { data := #[97] }, { data := #[97, 98] }] false),
  (2, AV.sc (Value.int IntKind.i64 0)), (1, AV.os 0 0 0 2 true false true), (23, AV.sc (Value.int IntKind.i64 0)),
  (22, AV.os 0 0 0 2 true false true), (18, AV.tuple [AV.os 0 0 0 2 true false true, AV.sc (Value.int IntKind.i64 0)]),
  (21, AV.tuple [AV.os 0 0 0 2 true false true, AV.sc (Value.int IntKind.i64 0)]),
  (20, AV.sl ET.str [{ data := #[98] }, { data := #[97] }] false),
  (19, AV.sl ET.str [{ data := #[98] }, { data := #[97] }] true), (0, AV.sc (Value.bool false))]
noncomputable def hp16_16 : Hp := [some
    {
      c :=
        [AV.run ET.str
            [{ data := (List.flatMap (fun n => (Utf8.encode n).data.toList) [Int.ofNat 97]).toArray },
              { data := (List.flatMap (fun n => (Utf8.encode n).data.toList) [Int.ofNat 98]).toArray }]],
      vr := false, ty := 9, fz := false, loose := false },
  some
    { c := [AV.run ET.str [{ data := (List.flatMap (fun n => (Utf8.encode n).data.toList) [Int.ofNat 98]).toArray }]],
      vr := false, ty := 9, fz := false, loose := false },
  some
    {
      c :=
        [AV.run ET.str
            [{ data := (List.flatMap (fun n => (Utf8.encode n).data.toList) [Int.ofNat 97]).toArray },
              { data := (List.flatMap (fun n => (Utf8.encode n).data.toList) [Int.ofNat 97, Int.ofNat 98]).toArray },
              { data := (List.flatMap (fun n => (Utf8.encode n).data.toList) [Int.ofNat 98]).toArray }]],
      vr := false, ty := 9, fz := false, loose := false },
  some
    {
      c :=
        [AV.run ET.str
            [{ data := (List.flatMap (fun n => (Utf8.encode n).data.toList) []).toArray },
              { data := (List.flatMap (fun n => (Utf8.encode n).data.toList) [Int.ofNat 97]).toArray },
              { data := (List.flatMap (fun n => (Utf8.encode n).data.toList) [Int.ofNat 98]).toArray },
              { data := (List.flatMap (fun n => (Utf8.encode n).data.toList) [Int.ofNat 99]).toArray }]],
      vr := false, ty := 9, fz := false, loose := false },
  some
    {
      c :=
        [AV.run ET.str
            [{ data := (List.flatMap (fun n => (Utf8.encode n).data.toList) []).toArray },
              { data := (List.flatMap (fun n => (Utf8.encode n).data.toList) [Int.ofNat 97]).toArray },
              { data := (List.flatMap (fun n => (Utf8.encode n).data.toList) [Int.ofNat 98]).toArray }]],
      vr := false, ty := 9, fz := false, loose := false },
  some
    {
      c :=
        [AV.run ET.str
            [{ data := (List.flatMap (fun n => (Utf8.encode n).data.toList) []).toArray },
              { data := (List.flatMap (fun n => (Utf8.encode n).data.toList) [Int.ofNat 97]).toArray },
              { data := (List.flatMap (fun n => (Utf8.encode n).data.toList) [Int.ofNat 98]).toArray }]],
      vr := false, ty := 9, fz := false, loose := false },
  some
    {
      c :=
        [AV.run ET.str
            [{ data := (List.flatMap (fun n => (Utf8.encode n).data.toList) []).toArray },
              { data := (List.flatMap (fun n => (Utf8.encode n).data.toList) [Int.ofNat 97]).toArray },
              { data := (List.flatMap (fun n => (Utf8.encode n).data.toList) [Int.ofNat 98]).toArray },
              { data := (List.flatMap (fun n => (Utf8.encode n).data.toList) [Int.ofNat 99]).toArray }]],
      vr := false, ty := 9, fz := false, loose := false },
  some { c := [AV.run ET.str []], vr := false, ty := 0, fz := false, loose := false }]
noncomputable def fr16_17 : Fr := [(0, AV.sc (Value.bool true)), (193, AV.sc (Value.bool true)), (189, AV.sc (Value.bool true)),
  (192, AV.sc (Value.bool true)), (189, AV.sc (Value.bool true)), (191, AV.sc (Value.int IntKind.i64 14)),
  (189, AV.sc (Value.bool true)), (190, AV.sl ET.str [{ data := #[] }, { data := #[97] }, { data := #[97, 98] }] false),
  (189, AV.sc (Value.bool true)), (189, AV.sc (Value.bool true)), (188, AV.sc (Value.bool true)),
  (184, AV.sc (Value.bool true)), (187, AV.sc (Value.bool true)), (184, AV.sc (Value.bool true)),
  (186, AV.sc (Value.int IntKind.i64 0)), (184, AV.sc (Value.bool true)),
  (185, AV.sl ET.str [{ data := #[] }, { data := #[97] }, { data := #[97, 98] }] false), (184, AV.sc (Value.bool true)),
  (184, AV.sc (Value.bool true)), (183, AV.sc (Value.bool true)), (180, AV.sc (Value.bool true)),
  (182, AV.sc (Value.bool true)), (180, AV.sc (Value.bool true)), (181, AV.sc (Value.int IntKind.i64 16)),
  (180, AV.sc (Value.bool true)), (180, AV.sc (Value.bool true)), (179, AV.sc (Value.bool true)),
  (174, AV.sc (Value.bool true)), (178, AV.sc (Value.bool true)), (174, AV.sc (Value.bool true)),
  (177, AV.sl ET.str [{ data := #[] }, { data := #[97] }, { data := #[98] }, { data := #[99] }] false),
  (174, AV.sc (Value.bool true)),
  (176, AV.sl ET.str [{ data := #[] }, { data := #[97] }, { data := #[98] }, { data := #[99] }] true),
  (174, AV.sc (Value.bool true)), (175, AV.os 6 0 0 4 true false true), (174, AV.sc (Value.bool true)),
  (174, AV.sc (Value.bool true)), (173, AV.sc (Value.bool true)), (168, AV.sc (Value.bool true)),
  (172, AV.sc (Value.bool true)), (168, AV.sc (Value.bool true)),
  (171, AV.sl ET.str [{ data := #[] }, { data := #[97] }, { data := #[98] }] false), (168, AV.sc (Value.bool true)),
  (170, AV.sl ET.str [{ data := #[] }, { data := #[97] }, { data := #[98] }] true), (168, AV.sc (Value.bool true)),
  (169, AV.os 5 0 0 3 true false true), (168, AV.sc (Value.bool true)), (168, AV.sc (Value.bool true)),
  (167, AV.sc (Value.bool true)), (164, AV.sc (Value.bool true)), (166, AV.sc (Value.bool true)),
  (164, AV.sc (Value.bool true)),
  (165, AV.sc (Value.string { data := (List.flatMap (fun n => (Utf8.encode n).data.toList) [Int.ofNat 98]).toArray })),
  (164, AV.sc (Value.bool true)), (164, AV.sc (Value.bool true)), (163, AV.sc (Value.bool true)),
  (160, AV.sc (Value.bool true)), (162, AV.sc (Value.bool true)), (160, AV.sc (Value.bool true)),
  (161, AV.sc (Value.int IntKind.i64 1)), (160, AV.sc (Value.bool true)), (160, AV.sc (Value.bool true)),
  (159, AV.sc (Value.bool true)), (154, AV.sc (Value.bool true)), (158, AV.sc (Value.bool true)),
  (154, AV.sc (Value.bool true)), (157, AV.sl ET.str [{ data := #[] }, { data := #[97] }, { data := #[98] }] false),
  (154, AV.sc (Value.bool true)), (156, AV.sl ET.str [{ data := #[] }, { data := #[97] }, { data := #[98] }] true),
  (154, AV.sc (Value.bool true)), (155, AV.os 4 0 0 3 true false true), (154, AV.sc (Value.bool true)),
  (154, AV.sc (Value.bool true)), (153, AV.sc (Value.bool true)), (148, AV.sc (Value.bool true)),
  (152, AV.sc (Value.bool true)), (148, AV.sc (Value.bool true)),
  (151, AV.sl ET.str [{ data := #[] }, { data := #[97] }, { data := #[98] }, { data := #[99] }] false),
  (148, AV.sc (Value.bool true)),
  (150, AV.sl ET.str [{ data := #[] }, { data := #[97] }, { data := #[98] }, { data := #[99] }] true),
  (148, AV.sc (Value.bool true)), (149, AV.os 3 0 0 4 true false true), (148, AV.sc (Value.bool true)),
  (148, AV.sc (Value.bool true)), (147, AV.sc (Value.bool true)), (142, AV.sc (Value.bool true)),
  (146, AV.sc (Value.bool true)), (142, AV.sc (Value.bool true)),
  (145, AV.sl ET.str [{ data := #[97] }, { data := #[97, 98] }, { data := #[98] }] false),
  (142, AV.sc (Value.bool true)),
  (144, AV.sl ET.str [{ data := #[97] }, { data := #[97, 98] }, { data := #[98] }] true),
  (142, AV.sc (Value.bool true)), (143, AV.os 2 0 0 3 true false true), (142, AV.sc (Value.bool true)),
  (142, AV.sc (Value.bool true)), (141, AV.sc (Value.bool true)), (136, AV.sc (Value.bool true)),
  (140, AV.sc (Value.bool true)), (136, AV.sc (Value.bool true)), (139, AV.sl ET.str [{ data := #[98] }] false),
  (136, AV.sc (Value.bool true)), (138, AV.sl ET.str [{ data := #[98] }] true), (136, AV.sc (Value.bool true)),
  (137, AV.os 1 0 0 1 true false true), (136, AV.sc (Value.bool true)), (136, AV.sc (Value.bool true)),
  (135, AV.sc (Value.bool true)), (130, AV.sc (Value.bool true)), (134, AV.sc (Value.bool true)),
  (130, AV.sc (Value.bool true)), (133, AV.sl ET.str [{ data := #[97] }, { data := #[98] }] false),
  (130, AV.sc (Value.bool true)), (132, AV.sl ET.str [{ data := #[97] }, { data := #[98] }] true),
  (130, AV.sc (Value.bool true)), (131, AV.os 0 0 0 2 true false true), (130, AV.sc (Value.bool true)),
  (130, AV.sc (Value.bool true)), (129, AV.sc (Value.bool true)), (126, AV.sc (Value.bool true)),
  (128, AV.sc (Value.bool true)), (126, AV.sc (Value.bool true)), (127, AV.sc (Value.int IntKind.i64 2)),
  (126, AV.sc (Value.bool true)), (126, AV.sc (Value.bool true)), (125, AV.sc (Value.bool true)),
  (122, AV.sc (Value.bool true)), (124, AV.sc (Value.bool true)), (122, AV.sc (Value.bool true)),
  (123, AV.sc (Value.int IntKind.i64 13)), (122, AV.sc (Value.bool true)), (122, AV.sc (Value.bool true)),
  (121, AV.sc (Value.bool true)), (118, AV.sc (Value.bool true)), (120, AV.sc (Value.bool true)),
  (118, AV.sc (Value.bool true)), (119, AV.sc (Value.int IntKind.i64 4)), (118, AV.sc (Value.bool true)),
  (118, AV.sc (Value.bool true)), (117, AV.sc (Value.bool true)), (114, AV.sc (Value.bool true)),
  (116, AV.sc (Value.bool true)), (114, AV.sc (Value.bool true)), (115, AV.sc (Value.int IntKind.i64 0)),
  (114, AV.sc (Value.bool true)), (114, AV.sc (Value.bool true)), (113, AV.sc (Value.bool true)),
  (110, AV.sc (Value.bool true)), (112, AV.sc (Value.bool true)), (110, AV.sc (Value.bool true)),
  (111, AV.sc (Value.int IntKind.i64 0)), (110, AV.sc (Value.bool true)), (110, AV.sc (Value.bool true)),
  (109, AV.sc (Value.bool true)), (108, AV.sc (Value.int IntKind.i64 0)), (12, AV.sc (Value.int IntKind.i64 2)),
  (107, AV.sc (Value.int IntKind.i64 2)), (106, AV.os 7 0 0 0 true false true),
  (103, AV.tuple [AV.os 7 0 0 0 true false true, AV.sc (Value.int IntKind.i64 2)]),
  (105, AV.tuple [AV.os 7 0 0 0 true false true, AV.sc (Value.int IntKind.i64 2)]),
  (104, AV.sl ET.str [{ data := #[] }, { data := #[97] }, { data := #[97, 98] }] false),
  (10, AV.sc (Value.int IntKind.i64 13)), (102, AV.sc (Value.int IntKind.i64 13)),
  (101, AV.sc (Value.string { data := #[] })),
  (98, AV.tuple [AV.sc (Value.string { data := #[] }), AV.sc (Value.int IntKind.i64 13)]),
  (100, AV.tuple [AV.sc (Value.string { data := #[] }), AV.sc (Value.int IntKind.i64 13)]),
  (99, AV.sl ET.str [{ data := #[] }, { data := #[97] }, { data := #[97, 98] }] false),
  (8, AV.sc (Value.int IntKind.i64 4)), (97, AV.sc (Value.int IntKind.i64 4)), (96, AV.sc (Value.int IntKind.i64 0)),
  (94, AV.tuple [AV.sc (Value.int IntKind.i64 0), AV.sc (Value.int IntKind.i64 4)]),
  (95, AV.tuple [AV.sc (Value.int IntKind.i64 0), AV.sc (Value.int IntKind.i64 4)]),
  (6, AV.sc (Value.int IntKind.i64 0)), (17, AV.sc (Value.int IntKind.i64 16)), (93, AV.sc (Value.int IntKind.i64 0)),
  (92, AV.sc (Value.int IntKind.i64 16)),
  (90, AV.tuple [AV.sc (Value.int IntKind.i64 16), AV.sc (Value.int IntKind.i64 0)]),
  (91, AV.tuple [AV.sc (Value.int IntKind.i64 16), AV.sc (Value.int IntKind.i64 0)]),
  (4, AV.sc (Value.int IntKind.i64 0)), (16, AV.os 6 0 0 4 true false true), (89, AV.sc (Value.int IntKind.i64 0)),
  (88, AV.os 6 0 0 4 true false true), (85, AV.tuple [AV.os 6 0 0 4 true false true, AV.sc (Value.int IntKind.i64 0)]),
  (87, AV.tuple [AV.os 6 0 0 4 true false true, AV.sc (Value.int IntKind.i64 0)]),
  (86,
    AV.sl ET.str [{ data := #[97, 98] }, { data := #[97, 99] }, { data := #[98, 99] }, { data := #[97, 98, 99] }]
      false),
  (2, AV.sc (Value.int IntKind.i64 0)), (15, AV.os 5 0 0 3 true false true), (84, AV.sc (Value.int IntKind.i64 0)),
  (83, AV.os 5 0 0 3 true false true), (80, AV.tuple [AV.os 5 0 0 3 true false true, AV.sc (Value.int IntKind.i64 0)]),
  (82, AV.tuple [AV.os 5 0 0 3 true false true, AV.sc (Value.int IntKind.i64 0)]),
  (81, AV.sl ET.str [{ data := #[] }, { data := #[97] }, { data := #[97, 98] }] false), (79, AV.sc (Value.bool false)),
  (79, AV.sc (Value.bool false)), (76, AV.sc (Value.bool false)), (78, AV.sc (Value.bool false)),
  (76, AV.sc (Value.bool false)), (77, AV.sc (Value.int IntKind.i64 0)), (76, AV.sc (Value.bool false)),
  (76, AV.sc (Value.bool false)), (75, AV.sc (Value.bool false)), (72, AV.sc (Value.bool false)),
  (74, AV.sc (Value.bool false)), (72, AV.sc (Value.bool false)), (73, AV.sc (Value.int IntKind.i64 0)),
  (72, AV.sc (Value.bool false)), (72, AV.sc (Value.bool false)), (71, AV.sc (Value.bool false)),
  (68, AV.sc (Value.bool false)), (70, AV.sc (Value.bool false)), (68, AV.sc (Value.bool false)),
  (69, AV.sc (Value.int IntKind.i64 0)), (68, AV.sc (Value.bool false)), (68, AV.sc (Value.bool false)),
  (67, AV.sc (Value.bool false)), (64, AV.sc (Value.bool false)), (66, AV.sc (Value.bool false)),
  (64, AV.sc (Value.bool false)), (65, AV.sc (Value.int IntKind.i64 0)), (64, AV.sc (Value.bool false)),
  (64, AV.sc (Value.bool false)), (63, AV.sc (Value.bool false)), (60, AV.sc (Value.bool false)),
  (62, AV.sc (Value.bool false)), (60, AV.sc (Value.bool false)), (61, AV.sc (Value.int IntKind.i64 0)),
  (60, AV.sc (Value.bool false)), (60, AV.sc (Value.bool false)), (59, AV.sc (Value.bool false)),
  (56, AV.sc (Value.bool false)), (58, AV.sc (Value.bool false)), (56, AV.sc (Value.bool false)),
  (57, AV.sc (Value.int IntKind.i64 0)), (56, AV.sc (Value.bool false)), (56, AV.sc (Value.bool false)),
  (55, AV.sc (Value.bool false)), (54, AV.sc (Value.int IntKind.i64 0)), (14, AV.sc (Value.int IntKind.i64 0)),
  (13, AV.sc (Value.string { data := (List.flatMap (fun n => (Utf8.encode n).data.toList) [Int.ofNat 98]).toArray })),
  (53, AV.sc (Value.int IntKind.i64 0)),
  (52, AV.sc (Value.string { data := (List.flatMap (fun n => (Utf8.encode n).data.toList) [Int.ofNat 98]).toArray })),
  (49,
    AV.tuple
      [AV.sc (Value.string { data := (List.flatMap (fun n => (Utf8.encode n).data.toList) [Int.ofNat 98]).toArray }),
        AV.sc (Value.int IntKind.i64 0)]),
  (51,
    AV.tuple
      [AV.sc (Value.string { data := (List.flatMap (fun n => (Utf8.encode n).data.toList) [Int.ofNat 98]).toArray }),
        AV.sc (Value.int IntKind.i64 0)]),
  (50, AV.sl ET.str [{ data := #[] }, { data := #[97] }, { data := #[97, 98] }] false),
  (12, AV.sc (Value.int IntKind.i64 0)), (11, AV.sc (Value.int IntKind.i64 1)), (48, AV.sc (Value.int IntKind.i64 0)),
  (47, AV.sc (Value.int IntKind.i64 1)),
  (44, AV.tuple [AV.sc (Value.int IntKind.i64 1), AV.sc (Value.int IntKind.i64 0)]),
  (46, AV.tuple [AV.sc (Value.int IntKind.i64 1), AV.sc (Value.int IntKind.i64 0)]),
  (45, AV.sl ET.str [{ data := #[] }, { data := #[97] }, { data := #[97, 98] }] false),
  (10, AV.sc (Value.int IntKind.i64 0)), (9, AV.os 4 0 0 3 true false true), (43, AV.sc (Value.int IntKind.i64 0)),
  (42, AV.os 4 0 0 3 true false true), (39, AV.tuple [AV.os 4 0 0 3 true false true, AV.sc (Value.int IntKind.i64 0)]),
  (41, AV.tuple [AV.os 4 0 0 3 true false true, AV.sc (Value.int IntKind.i64 0)]),
  (40, AV.sl ET.str [{ data := #[] }, { data := #[97] }, { data := #[97, 98] }] false),
  (8, AV.sc (Value.int IntKind.i64 0)), (7, AV.os 3 0 0 4 true false true), (38, AV.sc (Value.int IntKind.i64 0)),
  (37, AV.os 3 0 0 4 true false true), (34, AV.tuple [AV.os 3 0 0 4 true false true, AV.sc (Value.int IntKind.i64 0)]),
  (36, AV.tuple [AV.os 3 0 0 4 true false true, AV.sc (Value.int IntKind.i64 0)]),
  (35,
    AV.sl ET.str [{ data := #[97, 98] }, { data := #[97, 99] }, { data := #[98, 99] }, { data := #[97, 98, 99] }]
      false),
  (6, AV.sc (Value.int IntKind.i64 0)), (5, AV.os 2 0 0 3 true false true), (33, AV.sc (Value.int IntKind.i64 0)),
  (32, AV.os 2 0 0 3 true false true), (29, AV.tuple [AV.os 2 0 0 3 true false true, AV.sc (Value.int IntKind.i64 0)]),
  (31, AV.tuple [AV.os 2 0 0 3 true false true, AV.sc (Value.int IntKind.i64 0)]),
  (30,
    AV.sl ET.str [{ data := #[97, 98] }, { data := #[97, 99] }, { data := #[98, 99] }, { data := #[97, 98, 99] }]
      false),
  (4, AV.sc (Value.int IntKind.i64 0)), (3, AV.os 1 0 0 1 true false true), (28, AV.sc (Value.int IntKind.i64 0)),
  (27, AV.os 1 0 0 1 true false true), (24, AV.tuple [AV.os 1 0 0 1 true false true, AV.sc (Value.int IntKind.i64 0)]),
  (26, AV.tuple [AV.os 1 0 0 1 true false true, AV.sc (Value.int IntKind.i64 0)]),
  (25, AV.sl ET.str [{ data := #[] }, { data := #[97] }, { data := #[97, 98] }] false),
  (2, AV.sc (Value.int IntKind.i64 0)), (1, AV.os 0 0 0 2 true false true), (23, AV.sc (Value.int IntKind.i64 0)),
  (22, AV.os 0 0 0 2 true false true), (18, AV.tuple [AV.os 0 0 0 2 true false true, AV.sc (Value.int IntKind.i64 0)]),
  (21, AV.tuple [AV.os 0 0 0 2 true false true, AV.sc (Value.int IntKind.i64 0)]),
  (20, AV.sl ET.str [{ data := #[98] }, { data := #[97] }] false),
  (19, AV.sl ET.str [{ data := #[98] }, { data := #[97] }] true), (0, AV.sc (Value.bool false))]
noncomputable def hp16_17 : Hp := [some
    {
      c :=
        [AV.run ET.str
            [{ data := (List.flatMap (fun n => (Utf8.encode n).data.toList) [Int.ofNat 97]).toArray },
              { data := (List.flatMap (fun n => (Utf8.encode n).data.toList) [Int.ofNat 98]).toArray }]],
      vr := false, ty := 9, fz := false, loose := false },
  some
    { c := [AV.run ET.str [{ data := (List.flatMap (fun n => (Utf8.encode n).data.toList) [Int.ofNat 98]).toArray }]],
      vr := false, ty := 9, fz := false, loose := false },
  some
    {
      c :=
        [AV.run ET.str
            [{ data := (List.flatMap (fun n => (Utf8.encode n).data.toList) [Int.ofNat 97]).toArray },
              { data := (List.flatMap (fun n => (Utf8.encode n).data.toList) [Int.ofNat 97, Int.ofNat 98]).toArray },
              { data := (List.flatMap (fun n => (Utf8.encode n).data.toList) [Int.ofNat 98]).toArray }]],
      vr := false, ty := 9, fz := false, loose := false },
  some
    {
      c :=
        [AV.run ET.str
            [{ data := (List.flatMap (fun n => (Utf8.encode n).data.toList) []).toArray },
              { data := (List.flatMap (fun n => (Utf8.encode n).data.toList) [Int.ofNat 97]).toArray },
              { data := (List.flatMap (fun n => (Utf8.encode n).data.toList) [Int.ofNat 98]).toArray },
              { data := (List.flatMap (fun n => (Utf8.encode n).data.toList) [Int.ofNat 99]).toArray }]],
      vr := false, ty := 9, fz := false, loose := false },
  some
    {
      c :=
        [AV.run ET.str
            [{ data := (List.flatMap (fun n => (Utf8.encode n).data.toList) []).toArray },
              { data := (List.flatMap (fun n => (Utf8.encode n).data.toList) [Int.ofNat 97]).toArray },
              { data := (List.flatMap (fun n => (Utf8.encode n).data.toList) [Int.ofNat 98]).toArray }]],
      vr := false, ty := 9, fz := false, loose := false },
  some
    {
      c :=
        [AV.run ET.str
            [{ data := (List.flatMap (fun n => (Utf8.encode n).data.toList) []).toArray },
              { data := (List.flatMap (fun n => (Utf8.encode n).data.toList) [Int.ofNat 97]).toArray },
              { data := (List.flatMap (fun n => (Utf8.encode n).data.toList) [Int.ofNat 98]).toArray }]],
      vr := false, ty := 9, fz := false, loose := false },
  some
    {
      c :=
        [AV.run ET.str
            [{ data := (List.flatMap (fun n => (Utf8.encode n).data.toList) []).toArray },
              { data := (List.flatMap (fun n => (Utf8.encode n).data.toList) [Int.ofNat 97]).toArray },
              { data := (List.flatMap (fun n => (Utf8.encode n).data.toList) [Int.ofNat 98]).toArray },
              { data := (List.flatMap (fun n => (Utf8.encode n).data.toList) [Int.ofNat 99]).toArray }]],
      vr := false, ty := 9, fz := false, loose := false },
  some { c := [AV.run ET.str []], vr := false, ty := 0, fz := false, loose := false }]
theorem fn16_eq : TE.fn 16 = some fn16 := by kernel_rfl
theorem cd16_eq : fn16.body = some cd16 := by kernel_rfl
end Go.Ev.Rag
